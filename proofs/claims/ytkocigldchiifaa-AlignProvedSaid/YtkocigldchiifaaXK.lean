/- Texts U5 of this chapter, one behind the other. -/
import Derived.Deep.DeepCutAuto
import Derived.Test.YtkocigldchiifaaXF
import Derived.Test.YtkocigldchiifaaXG
import Derived.Test.YtkocigldchiifaaXH
import Derived.Test.YtkocigldchiifaaXJ
import Derived.Test.YtkocigldchiifaaXL

/- pianolalaw07.AlignProved. -/
namespace Go.Proofs.Ytkocigldchiifaa.H
open Go.RowKit Go.Proofs.YtkocigldchiifaaW.PrintWords Go.Proofs.YtkocigldchiifaaW.PrintLast Go.Proofs.YtkocigldchiifaaW.PrintMore
open Go.Shelf Go.Proofs.Ytkocigldchiifaa.QA
set_option linter.unusedVariables false
set_option linter.unusedSimpArgs false

def prv20_T : Bool × List (List Nat × List Nat) := (true, [([], []), ([], []), ([], []), ([2], [2]), ([1, 3], [1, 3]), ([4], [4]), ([], []), ([], []), ([7], [7]), ([6, 8], [6, 8]), ([9], [9]), ([5, 10], [5, 10]), ([0, 11], [0, 11]), ([12, 11, 0, 1, 2, 3, 4, 5, 6, 7, 8, 9, 10, 11, 12], [0, 12])])
def prv20_B : List Nat := [0, 0, 0, 4, 14, 30, 0, 0, 128, 448, 960, 2046, 4095, 8191]
theorem prv20_tab : rtab .any (opsOf Try.f12 20) = prv20_T := by kernel_rfl
theorem prv20_bits : waitsOk prv20_T.2 prv20_B = true := by kernel_rfl
def prv29_T : Bool × List (List Nat × List Nat) := (true, [([], []), ([], []), ([], []), ([1, 2], [1, 2]), ([3], [3]), ([4], [4]), ([5], [5]), ([], []), ([7], [7]), ([6, 8], [6, 8]), ([], []), ([], []), ([10, 11], [10, 11]), ([12], [12]), ([13], [13]), ([14], [14]), ([], []), ([16], [16]), ([15, 17], [15, 17]), ([9, 18], [9, 18]), ([19], [19]), ([0, 20], [0, 20]), ([21, 21, 0, 1, 2, 3, 4, 5, 6, 7, 8, 9, 10, 11, 12, 13, 14, 15, 16, 17, 18, 19, 20, 21], [0, 21])])
def prv29_B : List Nat := [0, 0, 0, 6, 14, 30, 62, 0, 128, 510, 0, 0, 3072, 7168, 15360, 31744, 0, 65536, 261120, 524286, 1048574, 2097151, 4194303]
theorem prv29_tab : rtab .any (opsOf Try.f12 29) = prv29_T := by kernel_rfl
theorem prv29_bits : waitsOk prv29_T.2 prv29_B = true := by kernel_rfl
theorem ver_bar {a b : List S59} (hR : Rolls a b) {n : Int} {l : List S25} (h : align_Verify.f a b n l = some 0) : BarOK a b n l := by
 unfold align_Verify.f at h
 rw [check_ok hR] at h
 replace h : some (if (0 : Int) = 0 then verF a b n l else 0) = some 0 := h
 rw [if_pos rfl] at h
 exact (verF_zero a b n l).1 (Option.some.inj h)
attribute [local go_sem] max2_mxH max_two
set_option maxRecDepth 100000 in
set_option maxHeartbeats 8000000 in
theorem alignProved_calls (A0 : Option Addr) (c0 : Nat) (l0 : List S59) (A1 : Option Addr) (c1 : Nat) (l1 : List S59) (A2 : Option Addr) (c2 : Nat) (l2 : List Int) (A3 : Option Addr) (c3 : Nat) (l3 : List S25) (a4 : Int) (w : World) (hC0 : Kd.C k111 w A0 l0.length l0) (hc0 : l0.length ≤ c0) (hb0 : ∀ x ∈ l0, Byte3 x) (hC1 : Kd.C k111 w A1 l1.length l1) (hc1 : l1.length ≤ c1) (hb1 : ∀ x ∈ l1, Byte3 x)
  (hC2 : Kd.C (Kd.int .u8) w A2 l2.length l2) (hc2 : l2.length ≤ c2) (hb2 : ∀ x ∈ l2, isByte x) (hC3 : Kd.C k75 w A3 l3.length l3) (hc3 : l3.length ≤ c3) (hb3 : ∀ x ∈ l3, Byte2 x) (h4 : isByte a4) :
  Calls Try.prog 12 #[.slice A0 l0.length c0, .slice A1 l1.length c1, .slice A2 l2.length c2, .slice A3 l3.length c3, .int .u8 a4] w fun e w' => e = .returned (.bool true) ∧ Below w.heap.size w w' := by
 have hu25 := Try.underlying25
 have hu59 := Try.underlying59
 have H0 := Aside0.mk hC0
 have H1 := Aside0.mk hC1
 have H2 := Aside0.mk hC2
 have H3 := Aside0.mk hC3
 have HA0 := Aside0.mk (And.intro hc0 hb0)
 have HA1 := Aside0.mk (And.intro hc1 hb1)
 have HA2 := Aside0.mk (And.intro hc2 hb2)
 have HA3 := Aside0.mk (And.intro hc3 hb3)
 have HB := Aside0.mk (Below.refl w.heap.size w)
 have hlena := made_len l0
 have hlenb := made_len l1
 unfold isByte at h4
 have r01 := made_rolls hb0 hb1
 have HR := Aside0.mk r01
 have HE := Aside0.mk (check_ok r01)
 obtain ⟨n, hn⟩ : ∃ n : Int, n = a4 % 25 := ⟨_, rfl⟩
 have e7 : a4.tmod 25 = n := by rw [hn]; exact Int.tmod_eq_emod_of_nonneg h4.1
 have hn0 : 0 ≤ n ∧ n ≤ 24 := by omega
 have HN := Aside0.mk hn0
 obtain ⟨la, hla⟩ : ∃ la, la = (madeF l0).length := ⟨_, rfl⟩
 obtain ⟨lb, hlb⟩ : ∃ lb, lb = (madeF l1).length := ⟨_, rfl⟩
 have HLN := Aside0.mk (show (1 ≤ la ∧ la ≤ 5) ∧ 1 ≤ lb ∧ lb ≤ 5 by omega)
 have HLE := Aside0.mk (And.intro hla hlb)
 have HG := Aside0.mk (gap_f r01)
 have wa : wrap64 ((la : Int) - 1) = (la : Int) - 1 := w64' _ (by omega) (by omega)
 have wb : wrap64 ((lb : Int) - 1) = (lb : Int) - 1 := w64' _ (by omega) (by omega)
 clear hC0 hc0 hb0 hC1 hc1 hb1 hC2 hc2 hb2 hC3 hc3 hb3 r01 hn hn0 hlena hlenb
 obtain ⟨G, hG⟩ : ∃ G, G = gapI (madeF l0) (madeF l1) := ⟨_, rfl⟩
 have HGG := Aside0.mk hG
 replace HG := Aside0.mk (show align_Gap.f (madeF l0) (madeF l1) = some (G, 0) by rw [hG]; exact HG.out)
 clear hG
 have H4E := Aside0.mk (And.intro h4 e7)
 clear h4 e7
 go_enter Try.func12, Try.ntmps12
 go_wp2_with fail
 refine (made_calls A0 c0 l0 _ H0.out HA0.out.1 HA0.out.2).mono ?_
 rintro e w1 ⟨v, rfl, hR, hb⟩
 have hbb := hb; clear hb
 have HB' := Aside0.mk (below_then HB.out HB.out.size hbb); clear HB; have HB := HB'; clear HB'
 have H0' := Aside0.mk (Kd.C_below H0.out hbb); clear H0; have H0 := H0'; clear H0'
 have H1' := Aside0.mk (Kd.C_below H1.out hbb); clear H1; have H1 := H1'; clear H1'
 have H2' := Aside0.mk (Kd.C_below H2.out hbb); clear H2; have H2 := H2'; clear H2'
 have H3' := Aside0.mk (Kd.C_below H3.out hbb); clear H3; have H3 := H3'; clear H3'
 clear hbb
 obtain ⟨Aa, ca, rfl, hca, hCa⟩ := Kd.R_reads hR
 clear hR
 have HCa := Aside0.mk hCa; clear hCa
 go_wp2_with fail
 refine (made_calls A1 c1 l1 _ H1.out HA1.out.1 HA1.out.2).mono ?_
 rintro e w2 ⟨v, rfl, hR, hb⟩
 have hbb := hb; clear hb
 have HB' := Aside0.mk (below_then HB.out HB.out.size hbb); clear HB; have HB := HB'; clear HB'
 have H0' := Aside0.mk (Kd.C_below H0.out hbb); clear H0; have H0 := H0'; clear H0'
 have H1' := Aside0.mk (Kd.C_below H1.out hbb); clear H1; have H1 := H1'; clear H1'
 have H2' := Aside0.mk (Kd.C_below H2.out hbb); clear H2; have H2 := H2'; clear H2'
 have H3' := Aside0.mk (Kd.C_below H3.out hbb); clear H3; have H3 := H3'; clear H3'
 have HCa' := Aside0.mk (Kd.C_below HCa.out hbb); clear HCa; have HCa := HCa'; clear HCa'
 clear hbb
 obtain ⟨Ab, cb, rfl, hcb, hCb⟩ := Kd.R_reads hR
 clear hR
 have HCb := Aside0.mk hCb; clear hCb
 go_wp2_with fail
 refine (align_Gap.calls Aa ca (madeF l0) Ab cb (madeF l1) G 0 _ HCa.out hca HCb.out hcb HG.out).mono ?_
 rintro e w3 ⟨rfl, hb⟩
 have hbb := hb; clear hb
 have HB' := Aside0.mk (below_then HB.out HB.out.size hbb); clear HB; have HB := HB'; clear HB'
 have HCa' := Aside0.mk (Kd.C_below HCa.out hbb); clear HCa; have HCa := HCa'; clear HCa'
 have HCb' := Aside0.mk (Kd.C_below HCb.out hbb); clear HCb; have HCb := HCb'; clear HCb'
 have H2' := Aside0.mk (Kd.C_below H2.out hbb); clear H2; have H2 := H2'; clear H2'
 have H3' := Aside0.mk (Kd.C_below H3.out hbb); clear H3; have H3 := H3'; clear H3'
 clear hbb
 have HCP := Aside0.mk (And.intro hca hcb)
 simp only [← hla, ← hlb]
 clear hla hlb
 go_upto_region 7 with fail
 have BB := Aside0.mk ((below_alloc (Below.refl w3.heap.size w3) (.cells #[.int .i64 0, .int .i64 0] 25)).alloc (by simp) (.cells #[.int .i64 0, .int .i64 0] 25))
 have hp := blk_alloc (blk_new w3 (.cells #[.int .i64 0, .int .i64 0] 25)) (.cells #[.int .i64 0, .int .i64 0] 25)
 have ho := ownP_one (base := w3.heap.size + 1) (x := 0) (y := 0) (blk_new (w3.alloc (.cells #[.int .i64 0, .int .i64 0] 25)) (.cells #[.int .i64 0, .int .i64 0] 25)) (by simp)
 have HLT := Aside0.mk (show w3.heap.size < ((w3.alloc (.cells #[.int .i64 0, .int .i64 0] 25)).alloc (.cells #[.int .i64 0, .int .i64 0] 25)).heap.size by simp; omega)
 rw [World.size_alloc] at ho
 generalize ((w3.alloc (.cells #[.int .i64 0, .int .i64 0] 25)).alloc (.cells #[.int .i64 0, .int .i64 0] 25)) = wp at BB hp ho HLT ⊢
 have HP := Aside0.mk hp
 have HO := Aside0.mk ho
 clear hp ho
 have BBD := Aside0.mk (show Below w3.heap.size w3 wp.drew from below_drew1 BB.out)
 obtain ⟨ada, had, x0, x1, x2⟩ := at_T59 (Kd.C_below HCa.out BBD.out) 0 (by omega) (by have := HLN.out; have := HLE.out; omega)
 cases had
 obtain ⟨adb, had, y0, y1, y2⟩ := at_T59 (Kd.C_below HCb.out BBD.out) 0 (by omega) (by have := HLN.out; have := HLE.out; omega)
 cases had
 rw [show ((0 : Int).toNat * 3) = 0 from rfl] at x0 x1 x2 y0 y1 y2
 simp only [Addr.add_zero'] at x0 x1 x2 y0 y1 y2
 have hla0 : (0 : Int) < (la : Int) := by have := HLN.out; omega
 have hlb0 : (0 : Int) < (lb : Int) := by have := HLN.out; omega
 have hla1 : 0 < la := by have := HLN.out; omega
 have hlb1 : 0 < lb := by have := HLN.out; omega
 have HF0 := Aside0.mk (lawfar_f (x := rd_T59 (madeF l0) 0) (y := rd_T59 (madeF l1) 0) (rd_good HR.out.ga 0 (by have := HLN.out; have := HLE.out; omega)) (rd_good HR.out.gb 0 (by have := HLN.out; have := HLE.out; omega)))
 refine region_quiet_tail 6 (by kernel_rfl) (by kernel_rfl) ?_
 have HD := Aside0.mk (below_drew (Below.refl wp.heap.size wp))
 have HSD := Aside0.mk (show wp.heap.size ≤ wp.drew.heap.size from HD.out.size)
 generalize wp.drew = wd at x0 x1 x2 y0 y1 y2 HD HSD ⊢
 simp only [List.take_succ_cons, List.take_zero, List.drop_succ_cons, List.drop_zero]
 iterate 6 go_big_quiet_step (fail)
 refine wpQuiet_nil ?_
 clear x0 x1 x2 y0 y1 y2 hla0 hlb0 hla1 hlb1
 go_wp2_with fail
 refine (pianolalaw07_far.calls _ _ _ _ _ _ _ _ HF0.out).mono ?_
 rintro e w4 ⟨rfl, hb⟩
 have HX := Aside0.mk (HD.out.trans (hb.mono HSD.out))
 have BW := Aside0.mk (BB.out.trans (HX.out.mono BB.out.size))
 have HP' := Aside0.mk (blk_below HP.out HX.out); clear HP; have HP := HP'; clear HP'
 have HO' := Aside0.mk (HO.out.below HX.out); clear HO; have HO := HO'; clear HO'
 have HW := Aside0.mk (Wlk.start HR.out)
 clear HF0 HD HSD HX hb BB BBD HLT
 go_wp2
 go_loopg [16, 17, 18] 20 (fun gk s16 s17 s18 wr => ∃ (v : Value) (W : List S25) (x y i : Nat) (top : Int), gk + i = 20 ∧ v = s16 ∧ s17 = .int .i64 top ∧ s18 = .int .i64 i ∧ Aside0 (x < la ∧ y < lb ∧ i ≤ x + y) ∧ Aside0 (OwnP wr (w3.heap.size + 1) v W) ∧ Aside0 (wr.heap[w3.heap.size]? = some (.cells #[.int .i64 x, .int .i64 y] 25 (0, 0))) ∧ Aside0 (Wlk (madeF l0) (madeF l1) W x y top) ∧ Aside0 (Below w3.heap.size w3 wr))
 case atStart => exact ⟨_, [⟨0, 0⟩], 0, 0, 0, _, rfl, rfl, rfl, rfl, ⟨by have := HLN.out; omega⟩, HO, HP, HW, BW⟩
 case round =>
  clear HO HP HW BW
  obtain ⟨v, W, x, y, i, top, hgk, rfl, rfl, rfl, HX, HO, HP, HW, HB3⟩ := hrel
  rename World => wr
  have HI8 := Aside0.mk (show i ≤ 8 by have := HX.out; have := HLN.out; omega)
  obtain ⟨gj, hgj⟩ : ∃ gj, gk = gj + 1 := ⟨gk - 1, by have := HI8.out; omega⟩
  have HGJ := Aside0.mk (And.intro hgk hgj)
  have HI1 := Aside0.mk (show wrap64 ((i : Int) + 1) = ((i + 1 : Nat) : Int) by have := HI8.out; rw [w64' _ (by omega) (by omega)]; rfl)
  clear hgk hgj
  have k0 : wr.cell? ⟨w3.heap.size, 0, none⟩ = some (.int .i64 (x : Int)) := (blk_cell HP.out 0).trans rfl
  have k1 : wr.cell? ⟨w3.heap.size, 1, none⟩ = some (.int .i64 (y : Int)) := (blk_cell HP.out 1).trans rfl
  go_upto_region 9 with fail
  go_cut [59] (fun s59 wc => s59 = .bool (decide (x + 1 < la ∨ y + 1 < lb)) ∧ wr = wc)
  case first =>
   by_cases c1 : x + 1 < la
   · have d1 : decide ((x : Int) < (la : Int) - 1) = true := decide_eq_true (by omega)
     have d0 := decide_eq_true (p := x + 1 < la ∨ y + 1 < lb) (.inl c1)
     clear c1
     go_wp2
     go_meet
     exact ⟨by rw [d0], rfl⟩
   · have d1 : decide ((x : Int) < (la : Int) - 1) = false := decide_eq_false (by omega)
     by_cases c2 : y + 1 < lb
     · have d2 : decide ((y : Int) < (lb : Int) - 1) = true := decide_eq_true (by omega)
       have d0 := decide_eq_true (p := x + 1 < la ∨ y + 1 < lb) (.inr c2)
       clear c1 c2
       go_wp2
       go_meet
       exact ⟨by rw [d0], rfl⟩
     · have d2 : decide ((y : Int) < (lb : Int) - 1) = false := decide_eq_false (by omega)
       have d0 := decide_eq_false (p := x + 1 < la ∨ y + 1 < lb) (by omega)
       clear c1 c2
       go_wp2
       go_meet
       exact ⟨by rw [d0], rfl⟩
  case rest =>
   obtain ⟨rfl, rfl⟩ := hcut
   by_cases hc : x + 1 < la ∨ y + 1 < lb
   · rw [decide_eq_true hc]
     have HCC := Aside0.mk hc
     clear hc k0 k1
     go_upto_if 65 with fail
     go_cut [19] (fun s19 wc => ∃ z : Int, s19 = .int .i64 z ∧ (0 ≤ z ∧ z ≤ 2) ∧ wr = wc)
     case first =>
      by_cases hi : i < l2.length
      · have hd : decide ((i : Int) < (l2.length : Int)) = true := decide_eq_true (by omega)
        have hi0 : (0 : Int) ≤ (i : Int) := by omega
        have hi1 : (i : Int) < (l2.length : Int) := by omega
        obtain ⟨ad2, had, x0⟩ := Kd.at_int (Kd.C_below H2.out HB3.out) (i : Int) hi0 hi1
        cases had
        rw [Int.toNat_natCast] at x0
        have hby : 0 ≤ rd l2 (i : Int) ∧ rd l2 (i : Int) ≤ 255 := HA2.out.2 _ (by
         unfold rd
         rw [Int.toNat_natCast, List.getD_eq_getElem?_getD, List.getElem?_eq_getElem hi]
         exact List.getElem_mem _)
        generalize rd l2 (i : Int) = u at x0 hby
        obtain ⟨z, hz⟩ : ∃ z : Int, z = u % 3 := ⟨_, rfl⟩
        have e3 : u.tmod 3 = z := by rw [hz]; exact Int.tmod_eq_emod_of_nonneg hby.1
        have HZ := Aside0.mk (show 0 ≤ z ∧ z ≤ 2 by omega)
        clear hz
        go_wp2
        go_meet
        exact ⟨z, rfl, HZ.out, rfl⟩
      · have hd : decide ((i : Int) < (l2.length : Int)) = false := decide_eq_false (by omega)
        go_wp2
        go_meet
        exact ⟨0, rfl, by omega, rfl⟩
     case rest =>
      obtain ⟨z, rfl, hz, rfl⟩ := hcut
      have HZ := Aside0.mk hz
      clear hz
      have k0 : wr.cell? ⟨w3.heap.size, 0, none⟩ = some (.int .i64 (x : Int)) := (blk_cell HP.out 0).trans rfl
      have k1 : wr.cell? ⟨w3.heap.size, 1, none⟩ = some (.int .i64 (y : Int)) := (blk_cell HP.out 1).trans rfl
      go_upto_region 14 with fail
      go_cut [89] (fun s89 wc => s89 = .bool (decide ((z ≠ 1 ∧ x + 1 < la) ∨ ¬ (y + 1 < lb))) ∧ wr = wc)
      case first =>
       by_cases c1 : x + 1 < la <;> by_cases c2 : y + 1 < lb
       · have d1 : decide ((x : Int) < (la : Int) - 1) = true := decide_eq_true (by omega)
         have d2 : decide ((y : Int) < (lb : Int) - 1) = true := decide_eq_true (by omega)
         have d3 : decide ((y : Int) = (lb : Int) - 1) = false := decide_eq_false (by have := HX.out; omega)
         have d4 : ((y : Int) == (lb : Int) - 1) = false := beq_false_of_ne (by omega)
         have hz := HZ.out
         have hz3 : z = 0 ∨ z = 1 ∨ z = 2 := by omega
         clear hz
         rcases hz3 with rfl | rfl | rfl
         · have D5 := Aside0.mk (decide_eq_true (p := ((0 : Int) ≠ 1 ∧ x + 1 < la) ∨ ¬ (y + 1 < lb)) (by omega))
           clear c1 c2
           go_wp2
           go_meet
           exact ⟨by rw [D5.out], rfl⟩
         · have D5 := Aside0.mk (decide_eq_false (p := ((1 : Int) ≠ 1 ∧ x + 1 < la) ∨ ¬ (y + 1 < lb)) (by omega))
           clear c1 c2
           go_wp2
           go_meet
           exact ⟨by rw [D5.out], rfl⟩
         · have D5 := Aside0.mk (decide_eq_true (p := ((2 : Int) ≠ 1 ∧ x + 1 < la) ∨ ¬ (y + 1 < lb)) (by omega))
           clear c1 c2
           go_wp2
           go_meet
           exact ⟨by rw [D5.out], rfl⟩
       · have d1 : decide ((x : Int) < (la : Int) - 1) = true := decide_eq_true (by omega)
         have d2 : decide ((y : Int) < (lb : Int) - 1) = false := decide_eq_false (by omega)
         have d3 : decide ((y : Int) = (lb : Int) - 1) = true := decide_eq_true (by have := HX.out; omega)
         have d4 : ((y : Int) == (lb : Int) - 1) = true := beq_iff_eq.2 (by have := HX.out; omega)
         have hz := HZ.out
         have hz3 : z = 0 ∨ z = 1 ∨ z = 2 := by omega
         clear hz
         rcases hz3 with rfl | rfl | rfl
         · have D5 := Aside0.mk (decide_eq_true (p := ((0 : Int) ≠ 1 ∧ x + 1 < la) ∨ ¬ (y + 1 < lb)) (by omega))
           clear c1 c2
           go_wp2
           go_meet
           exact ⟨by rw [D5.out], rfl⟩
         · have D5 := Aside0.mk (decide_eq_true (p := ((1 : Int) ≠ 1 ∧ x + 1 < la) ∨ ¬ (y + 1 < lb)) (by omega))
           clear c1 c2
           go_wp2
           go_meet
           exact ⟨by rw [D5.out], rfl⟩
         · have D5 := Aside0.mk (decide_eq_true (p := ((2 : Int) ≠ 1 ∧ x + 1 < la) ∨ ¬ (y + 1 < lb)) (by omega))
           clear c1 c2
           go_wp2
           go_meet
           exact ⟨by rw [D5.out], rfl⟩
       · have d1 : decide ((x : Int) < (la : Int) - 1) = false := decide_eq_false (by omega)
         have d2 : decide ((y : Int) < (lb : Int) - 1) = true := decide_eq_true (by omega)
         have d3 : decide ((y : Int) = (lb : Int) - 1) = false := decide_eq_false (by have := HX.out; omega)
         have d4 : ((y : Int) == (lb : Int) - 1) = false := beq_false_of_ne (by omega)
         have hz := HZ.out
         have hz3 : z = 0 ∨ z = 1 ∨ z = 2 := by omega
         clear hz
         rcases hz3 with rfl | rfl | rfl
         · have D5 := Aside0.mk (decide_eq_false (p := ((0 : Int) ≠ 1 ∧ x + 1 < la) ∨ ¬ (y + 1 < lb)) (by omega))
           clear c1 c2
           go_wp2
           go_meet
           exact ⟨by rw [D5.out], rfl⟩
         · have D5 := Aside0.mk (decide_eq_false (p := ((1 : Int) ≠ 1 ∧ x + 1 < la) ∨ ¬ (y + 1 < lb)) (by omega))
           clear c1 c2
           go_wp2
           go_meet
           exact ⟨by rw [D5.out], rfl⟩
         · have D5 := Aside0.mk (decide_eq_false (p := ((2 : Int) ≠ 1 ∧ x + 1 < la) ∨ ¬ (y + 1 < lb)) (by omega))
           clear c1 c2
           go_wp2
           go_meet
           exact ⟨by rw [D5.out], rfl⟩
       · exact absurd HCC.out (by omega)
      case rest =>
       obtain ⟨rfl, rfl⟩ := hcut
       obtain ⟨q, hq⟩ : ∃ q : Bool, decide ((z ≠ 1 ∧ x + 1 < la) ∨ ¬ (y + 1 < lb)) = q := ⟨_, rfl⟩
       rw [hq]
       have HQ := Aside0.mk hq
       clear hq k0 k1
       go_upto_if 89 with fail
       go_cut [] (fun wc => ∃ x' y' : Nat, ((x ≤ x' ∧ x' ≤ x + 1) ∧ (y ≤ y' ∧ y' ≤ y + 1) ∧ x + y < x' + y' ∧ x' < la ∧ y' < lb) ∧ wc.heap[w3.heap.size]? = some (.cells #[.int .i64 x', .int .i64 y'] 25 (0, 0)) ∧ Below w3.heap.size w3 wc ∧ OwnP wc (w3.heap.size + 1) v W)
       case first =>
        have k0 : wr.cell? ⟨w3.heap.size, 0, none⟩ = some (.int .i64 (x : Int)) := (blk_cell HP.out 0).trans rfl
        have k1 : wr.cell? ⟨w3.heap.size, 1, none⟩ = some (.int .i64 (y : Int)) := (blk_cell HP.out 1).trans rfl
        have fz0 : wr.frozen? ⟨w3.heap.size, 0, none⟩ = false := blk_frozen HP.out 0
        have fz1 : wr.frozen? ⟨w3.heap.size, 1, none⟩ = false := blk_frozen HP.out 1
        obtain ⟨x1, hx1⟩ : ∃ x1, x1 = x + 1 := ⟨_, rfl⟩
        obtain ⟨y1, hy1⟩ : ∃ y1, y1 = y + 1 := ⟨_, rfl⟩
        have e1 : wrap64 ((x : Int) + 1) = (x1 : Int) := by have := HX.out; have := HLN.out; rw [w64' _ (by omega) (by omega)]; omega
        have e2 : wrap64 ((y : Int) + 1) = (y1 : Int) := by have := HX.out; have := HLN.out; rw [w64' _ (by omega) (by omega)]; omega
        have HXY := Aside0.mk (And.intro hx1 hy1)
        clear hx1 hy1
        have HNE := Aside0.mk (ownP_ne HO.out (Nat.lt_succ_self _))
        cases q with
        | true =>
         have H1X := Aside0.mk (show x + 1 < la by have := of_decide_eq_true HQ.out; have := HCC.out; omega)
         by_cases hz2 : z = 2
         · subst hz2
           by_cases c2 : y + 1 < lb
           · have d2 : decide ((y : Int) < (lb : Int) - 1) = true := decide_eq_true (by omega)
             have H2Y := Aside0.mk c2
             clear c2
             go_wp2
             go_meet
             exact ⟨x1, y1, by have := HXY.out; have := H1X.out; have := H2Y.out; omega, blk_set1 (blk_set0 HP.out), below_set' (below_set' HB3.out (Nat.le_refl _)) (Nat.le_refl _), (HO.out.aside HNE.out).aside HNE.out⟩
           · have d2 : decide ((y : Int) < (lb : Int) - 1) = false := decide_eq_false (by omega)
             clear c2
             go_wp2
             go_meet
             exact ⟨x1, y, by have := HXY.out; have := H1X.out; have := HX.out; omega, blk_set0 HP.out, below_set' HB3.out (Nat.le_refl _), HO.out.aside HNE.out⟩
         · have d5 : decide (z = 2) = false := decide_eq_false hz2
           have d6 : (z == 2) = false := beq_false_of_ne hz2
           go_wp2
           go_meet
           exact ⟨x1, y, by have := HXY.out; have := H1X.out; have := HX.out; omega, blk_set0 HP.out, below_set' HB3.out (Nat.le_refl _), HO.out.aside HNE.out⟩
        | false =>
         have H2Y := Aside0.mk (show y + 1 < lb by have := of_decide_eq_false HQ.out; omega)
         go_wp2
         go_meet
         exact ⟨x, y1, by have := HXY.out; have := H2Y.out; have := HX.out; omega, blk_set1 HP.out, below_set' HB3.out (Nat.le_refl _), HO.out.aside HNE.out⟩
       case rest =>
        obtain ⟨x', y', hxy, hP, hB, hO⟩ := hcut
        have HXY := Aside0.mk hxy
        have HPC := Aside0.mk hP
        have HBC := Aside0.mk hB
        have HOC := Aside0.mk hO
        have q0 : wc.cell? ⟨w3.heap.size, 0, none⟩ = some (.int .i64 (x' : Int)) := (blk_cell hP 0).trans rfl
        have q1 : wc.cell? ⟨w3.heap.size, 1, none⟩ = some (.int .i64 (y' : Int)) := (blk_cell hP 1).trans rfl
        clear hxy hP hB hO HP HB3 HO HQ HCC
        go_wp2_with (at_builtin; refine Aside0.out ?_)
        refine ⟨?_⟩
        clear q0 q1
        have hb3 := below_alloc (Below.refl wc.heap.size wc) (.cells #[.int .i64 (x' : Int), .int .i64 (y' : Int)] 25)
        refine wpList_append_OwnP rfl _ _ rfl (w3.heap.size + 1) v W [⟨(x' : Int), (y' : Int)⟩] rfl (HOC.out.below hb3) ⟨wc.heap.size, 0, none⟩ 1 1 rfl rfl (fun k u hu => by simpa using World.news_of_block (cs := #[.int .i64 (x' : Int), .int .i64 (y' : Int)]) (t := 25) (fr := (0, 0)) (heap_alloc_new wc (.cells #[.int .i64 (x' : Int), .int .i64 (y' : Int)] 25)) k u (by simpa [cellsP] using hu)) (by have := HW.out.len; have := HX.out; have := HLN.out; omega) (by have := blk_lt HPC.out; have := hb3.size; omega) ?_
        intro v4 w4 hO4 hb4 hg4 ho4
        have HO4 := Aside0.mk hO4
        have HB4 := Aside0.mk ((HBC.out.trans (hb3.mono HBC.out.size)).trans (hb4.mono (Nat.le_succ _)))
        have HP4 := Aside0.mk ((hb4.block _ (Nat.lt_succ_self _)).trans (blk_below HPC.out hb3))
        clear hO4 hb4 hg4 ho4 hb3
        clear HPC HBC HOC
        obtain ⟨P, hP⟩ : ∃ P, P = rd_T59 (madeF l0) (x' : Int) := ⟨_, rfl⟩
        obtain ⟨R, hR⟩ : ∃ R, R = rd_T59 (madeF l1) (y' : Int) := ⟨_, rfl⟩
        obtain ⟨ad2, had, x0, x1, x2⟩ := at_T59 (Kd.C_below HCa.out HB4.out) (x' : Int) (by omega) (by have := HXY.out; have := HLE.out; omega)
        cases had
        obtain ⟨ad2, had, y0, y1, y2⟩ := at_T59 (Kd.C_below HCb.out HB4.out) (y' : Int) (by omega) (by have := HXY.out; have := HLE.out; omega)
        cases had
        rw [Int.toNat_natCast] at x0 x1 x2 y0 y1 y2
        rw [← hP] at x0 x1 x2
        rw [← hR] at y0 y1 y2
        have KK := Aside0.mk (And.intro ((blk_cell HP4.out 0).trans rfl : w4.cell? ⟨w3.heap.size, 0, none⟩ = some (.int .i64 (x' : Int))) (And.intro ((blk_cell HP4.out 1).trans rfl : w4.cell? ⟨w3.heap.size, 1, none⟩ = some (.int .i64 (y' : Int))) (And.intro x0 (And.intro x1 (And.intro x2 (And.intro y0 (And.intro y1 y2)))))))
        clear x0 x1 x2 y0 y1 y2
        have hx0 : (0 : Int) ≤ (x' : Int) := by omega
        have hx1 : (x' : Int) < (la : Int) := by have := HXY.out; omega
        have hx2 : x' < la := HXY.out.2.2.2.1
        have hy0 : (0 : Int) ≤ (y' : Int) := by omega
        have hy1 : (y' : Int) < (lb : Int) := by have := HXY.out; omega
        have hy2 : y' < lb := HXY.out.2.2.2.2
        have HF0 := Aside0.mk (lawfar_f (x := P) (y := R) (by rw [hP]; exact rd_good HR.out.ga _ (by have := HLE.out; omega)) (by rw [hR]; exact rd_good HR.out.gb _ (by have := HLE.out; omega)))
        have HPR := Aside0.mk (show farD P R = dist (madeF l0) (madeF l1) (x' : Int) (y' : Int) by rw [hP, hR]; rfl)
        clear hP hR
        go_upto_region 20 with fail
        refine start_ (n := 14) (S := fun w' => w'.cell? ⟨w3.heap.size, 0, none⟩ = some (.int .i64 (x' : Int)) ∧ w'.cell? ⟨w3.heap.size, 1, none⟩ = some (.int .i64 (y' : Int)) ∧ w'.cell? (ada.add (x' * 3)) = some (.int .i64 P.f0) ∧ w'.cell? ⟨(ada.add (x' * 3)).block, (ada.add (x' * 3)).off + 1, none⟩ = some (.int .i64 P.f1) ∧ w'.cell? ⟨(ada.add (x' * 3)).block, (ada.add (x' * 3)).off + 2, none⟩ = some (.int .i64 P.f2) ∧ w'.cell? (adb.add (y' * 3)) = some (.int .i64 R.f0) ∧ w'.cell? ⟨(adb.add (y' * 3)).block, (adb.add (y' * 3)).off + 1, none⟩ = some (.int .i64 R.f1) ∧ w'.cell? ⟨(adb.add (y' * 3)).block, (adb.add (y' * 3)).off + 2, none⟩ = some (.int .i64 R.f2)) (ds := []) #[false, false, false, false, false, false, false, false, false, false, false, false, false, false] (by kernel_rfl) rfl rfl KK.out (fun hHeld => ?_)
        refine with_tabW prv20_tab prv20_bits (fun HT_ HW_ => ?_)
        have HD := Aside0.mk (below_drew (Below.refl w4.heap.size w4))
        generalize w4.drew = wd at HD hHeld ⊢
        refine take_ (i := 0) (N := some 116) (v := ?_) (a' := ?_) #[true, false, false, false, false, false, false, false, false, false, false, false, false, false] rfl rfl (take_ofW HT_.out HW_.out (by kernel_rfl)) (fun _ _ _ h => h) (Or.inl ⟨by rfl, ?_⟩) hHeld ?_ ?_
        rotate_left
        · rintro w' ⟨s0, s1, s2, s3, s4, s5, s6, s7⟩
          go_simp
          with_reducible rfl
        rotate_left
        · simp only [Act.put, List.setIfInBounds_toArray, List.set_cons_zero, List.set_cons_succ, i64_w, i32_w]
          rfl
        refine take_ (i := 1) (N := some 117) (v := ?_) (a' := ?_) #[true, true, false, false, false, false, false, false, false, false, false, false, false, false] rfl rfl (take_ofW HT_.out HW_.out (by kernel_rfl)) (fun _ _ _ h => h) (Or.inl ⟨by rfl, ?_⟩) hHeld ?_ ?_
        rotate_left
        · rintro w' ⟨s0, s1, s2, s3, s4, s5, s6, s7⟩
          go_simp
          with_reducible rfl
        rotate_left
        · simp only [Act.put, List.setIfInBounds_toArray, List.set_cons_zero, List.set_cons_succ, i64_w, i32_w]
          rfl
        refine take_ (i := 2) (N := some 118) (v := ?_) (a' := ?_) #[true, true, true, false, false, false, false, false, false, false, false, false, false, false] rfl rfl (take_ofW HT_.out HW_.out (by kernel_rfl)) (fun _ _ _ h => h) (Or.inl ⟨by rfl, ?_⟩) hHeld ?_ ?_
        rotate_left
        · rintro w' ⟨s0, s1, s2, s3, s4, s5, s6, s7⟩
          go_simp
          with_reducible rfl
        rotate_left
        · simp only [Act.put, List.setIfInBounds_toArray, List.set_cons_zero, List.set_cons_succ, i64_w, i32_w]
          rfl
        refine take_ (i := 3) (N := some 119) (v := ?_) (a' := ?_) #[true, true, true, true, false, false, false, false, false, false, false, false, false, false] rfl rfl (take_ofW HT_.out HW_.out (by kernel_rfl)) (fun _ _ _ h => h) (Or.inl ⟨by rfl, ?_⟩) hHeld ?_ ?_
        rotate_left
        · rintro w' ⟨s0, s1, s2, s3, s4, s5, s6, s7⟩
          go_simp
          with_reducible rfl
        rotate_left
        · simp only [Act.put, List.setIfInBounds_toArray, List.set_cons_zero, List.set_cons_succ, i64_w, i32_w]
          rfl
        refine take_ (i := 4) (N := some 120) (v := ?_) (a' := ?_) #[true, true, true, true, true, false, false, false, false, false, false, false, false, false] rfl rfl (take_ofW HT_.out HW_.out (by kernel_rfl)) (fun _ _ _ h => h) (Or.inl ⟨by rfl, ?_⟩) hHeld ?_ ?_
        rotate_left
        · rintro w' ⟨s0, s1, s2, s3, s4, s5, s6, s7⟩
          go_simp
          with_reducible rfl
        rotate_left
        · simp only [Act.put, List.setIfInBounds_toArray, List.set_cons_zero, List.set_cons_succ, i64_w, i32_w]
          rfl
        refine take_ (i := 5) (N := some 121) (v := ?_) (a' := ?_) #[true, true, true, true, true, true, false, false, false, false, false, false, false, false] rfl rfl (take_ofW HT_.out HW_.out (by kernel_rfl)) (fun _ _ _ h => h) (Or.inl ⟨by rfl, ?_⟩) hHeld ?_ ?_
        rotate_left
        · rintro w' ⟨s0, s1, s2, s3, s4, s5, s6, s7⟩
          go_simp
          with_reducible rfl
        rotate_left
        · simp only [Act.put, List.setIfInBounds_toArray, List.set_cons_zero, List.set_cons_succ, i64_w, i32_w]
          rfl
        refine take_ (i := 6) (N := some 122) (v := ?_) (a' := ?_) #[true, true, true, true, true, true, true, false, false, false, false, false, false, false] rfl rfl (take_ofW HT_.out HW_.out (by kernel_rfl)) (fun _ _ _ h => h) (Or.inl ⟨by rfl, ?_⟩) hHeld ?_ ?_
        rotate_left
        · rintro w' ⟨s0, s1, s2, s3, s4, s5, s6, s7⟩
          go_simp
          with_reducible rfl
        rotate_left
        · simp only [Act.put, List.setIfInBounds_toArray, List.set_cons_zero, List.set_cons_succ, i64_w, i32_w]
          rfl
        refine take_ (i := 7) (N := some 123) (v := ?_) (a' := ?_) #[true, true, true, true, true, true, true, true, false, false, false, false, false, false] rfl rfl (take_ofW HT_.out HW_.out (by kernel_rfl)) (fun _ _ _ h => h) (Or.inl ⟨by rfl, ?_⟩) hHeld ?_ ?_
        rotate_left
        · rintro w' ⟨s0, s1, s2, s3, s4, s5, s6, s7⟩
          go_simp
          with_reducible rfl
        rotate_left
        · simp only [Act.put, List.setIfInBounds_toArray, List.set_cons_zero, List.set_cons_succ, i64_w, i32_w]
          rfl
        refine take_ (i := 8) (N := some 124) (v := ?_) (a' := ?_) #[true, true, true, true, true, true, true, true, true, false, false, false, false, false] rfl rfl (take_ofW HT_.out HW_.out (by kernel_rfl)) (fun _ _ _ h => h) (Or.inl ⟨by rfl, ?_⟩) hHeld ?_ ?_
        rotate_left
        · rintro w' ⟨s0, s1, s2, s3, s4, s5, s6, s7⟩
          go_simp
          with_reducible rfl
        rotate_left
        · simp only [Act.put, List.setIfInBounds_toArray, List.set_cons_zero, List.set_cons_succ, i64_w, i32_w]
          rfl
        refine take_ (i := 9) (N := some 125) (v := ?_) (a' := ?_) #[true, true, true, true, true, true, true, true, true, true, false, false, false, false] rfl rfl (take_ofW HT_.out HW_.out (by kernel_rfl)) (fun _ _ _ h => h) (Or.inl ⟨by rfl, ?_⟩) hHeld ?_ ?_
        rotate_left
        · rintro w' ⟨s0, s1, s2, s3, s4, s5, s6, s7⟩
          go_simp
          with_reducible rfl
        rotate_left
        · simp only [Act.put, List.setIfInBounds_toArray, List.set_cons_zero, List.set_cons_succ, i64_w, i32_w]
          rfl
        refine take_ (i := 10) (N := some 126) (v := ?_) (a' := ?_) #[true, true, true, true, true, true, true, true, true, true, true, false, false, false] rfl rfl (take_ofW HT_.out HW_.out (by kernel_rfl)) (fun _ _ _ h => h) (Or.inl ⟨by rfl, ?_⟩) hHeld ?_ ?_
        rotate_left
        · rintro w' ⟨s0, s1, s2, s3, s4, s5, s6, s7⟩
          go_simp
          with_reducible rfl
        rotate_left
        · simp only [Act.put, List.setIfInBounds_toArray, List.set_cons_zero, List.set_cons_succ, i64_w, i32_w]
          rfl
        refine one_ (i := 11) (N := some 127) #[true, true, true, true, true, true, true, true, true, true, true, true, false, false] rfl rfl (one_of HT_.out (by kernel_rfl)) (by decide) (fun K hK => ?_)
        refine goes_ Try.func39 (by kernel_rfl) rfl #[.agg #[.int .i64 P.f0, .int .i64 P.f1, .int .i64 P.f2], .agg #[.int .i64 R.f0, .int .i64 R.f1, .int .i64 R.f2]] (by rfl) rfl rfl (by (try simp only [List.map_toArray, List.map_cons, List.map_nil]); first | done | rfl) ?_
        refine (pianolalaw07_far.calls P.f0 P.f1 P.f2 R.f0 R.f1 R.f2 (farD P R) wd HF0.out).mono ?_
        rintro e w5 ⟨rfl, hb⟩
        refine ⟨_, rfl, ?_⟩
        have HB5 := Aside0.mk (HB4.out.trans ((HD.out.trans (hb.mono HD.out.size)).mono HB4.out.size))
        have HO5 := Aside0.mk (HO4.out.below (HD.out.trans (hb.mono HD.out.size)))
        have HP5 := Aside0.mk (blk_below HP4.out (HD.out.trans (hb.mono HD.out.size)))
        have HK := Aside0.mk hHeld
        replace KK := Aside0.mk (And.intro (pw_cell_below hb HK.out.1) (And.intro (pw_cell_below hb HK.out.2.1) (And.intro (pw_cell_below hb HK.out.2.2.1) (And.intro (pw_cell_below hb HK.out.2.2.2.1) (And.intro (pw_cell_below hb HK.out.2.2.2.2.1) (And.intro (pw_cell_below hb HK.out.2.2.2.2.2.1) (And.intro (pw_cell_below hb HK.out.2.2.2.2.2.2.1) (pw_cell_below hb HK.out.2.2.2.2.2.2.2))))))))
        clear hb HD HB4 HO4 HP4 HK
        refine hK.out _ _ KK.out (fun hHeld => ?_)
        clear hK K
        refine norm_ (a' := ?_) ?_ ?_
        rotate_left
        · show Act.put _ (some 127) _ = _
          simp only [Act.put, List.setIfInBounds_toArray, List.set_cons_zero, List.set_cons_succ, i64_w, i32_w]
          rfl
        refine take_ (i := 12) (N := some 128) (v := ?_) (a' := ?_) #[true, true, true, true, true, true, true, true, true, true, true, true, true, false] rfl rfl (take_ofW HT_.out HW_.out (by kernel_rfl)) (fun _ _ _ h => h) (Or.inl ⟨by rfl, ?_⟩) hHeld ?_ ?_
        rotate_left
        · rintro w' ⟨s0, s1, s2, s3, s4, s5, s6, s7⟩
          go_simp
          with_reducible rfl
        rotate_left
        · simp only [Act.put, List.setIfInBounds_toArray, List.set_cons_zero, List.set_cons_succ, i64_w, i32_w]
          rfl
        refine take_ (i := 13) (N := some 17) (v := ?_) (a' := ?_) #[true, true, true, true, true, true, true, true, true, true, true, true, true, true] rfl rfl (take_ofW HT_.out HW_.out (by kernel_rfl)) (fun _ _ _ h => h) (Or.inl ⟨by rfl, ?_⟩) hHeld ?_ ?_
        rotate_left
        · rintro w' ⟨s0, s1, s2, s3, s4, s5, s6, s7⟩
          go_simp
          with_reducible rfl
        rotate_left
        · simp only [Act.put, List.setIfInBounds_toArray, List.set_cons_zero, List.set_cons_succ, i64_w, i32_w]
          rfl
        refine done_ (done_of HT_.out (by kernel_rfl)) ?_
        clear HT_ HW_ hHeld KK
        clear hx0 hx1 hx2 hy0 hy1 hy2
        go_wp2
        go_roundg gj
        case measure => have := HGJ.out; omega
        case rel => exact ⟨v4, W ++ [⟨(x' : Int), (y' : Int)⟩], x', y', i + 1, mx top (farD P R), by have := HGJ.out; omega, rfl, rfl, congrArg _ HI1.out, ⟨by have := HXY.out; have := HX.out; omega⟩, ⟨HO5.out⟩, ⟨HP5.out⟩, ⟨by rw [HPR.out]; exact HW.out.next (by have := HXY.out; have := HLE.out; omega) (by have := HXY.out; have := HLE.out; omega) HXY.out.1 HXY.out.2.1 HXY.out.2.2.1⟩, ⟨HB5.out⟩⟩
   · rw [decide_eq_false hc]
     have HDN := Aside0.mk (HW.out.done HR.out (by have := HX.out; have := HLE.out; omega) (by have := HX.out; have := HLE.out; omega))
     clear hc k0 k1
     have HWL := Aside0.mk (show W.length ≤ 1000000 by have := HW.out.len; have := HX.out; have := HLN.out; omega)
     have HHT := Aside0.mk (show align_Height.f (madeF l0) (madeF l1) W = some (top, 0) by
      unfold align_Height.f
      rw [HE.out]
      show some (if (0 : Int) = 0 then htF (madeF l0) (madeF l1) W else (0, 0)) = _
      rw [if_pos rfl, HDN.out.1])
     have HGT := Aside0.mk (show G ≤ top by rw [HGG.out]; exact HDN.out.2)
     have e9 : decide (top < G) = false := decide_eq_false (by have := HGT.out; omega)
     obtain ⟨Aw, cw, rfl, hcw, hCw⟩ := Kd.R_reads HO.out.R
     have HCw := Aside0.mk hCw
     clear hCw HO HP HW HDN
     have HCa' := Aside0.mk (Kd.C_below HCa.out HB3.out); clear HCa; have HCa := HCa'; clear HCa'
     have HCb' := Aside0.mk (Kd.C_below HCb.out HB3.out); clear HCb; have HCb := HCb'; clear HCb'
     have H3' := Aside0.mk (Kd.C_below H3.out HB3.out); clear H3; have H3 := H3'; clear H3'
     have HB' := Aside0.mk (below_then HB.out HB.out.size HB3.out); clear HB; have HB := HB'; clear HB'
     clear HB3 H2
     have hcall := align_Height.calls _ _ (madeF l0) _ _ (madeF l1) Aw cw W top 0 _ HCa.out HCP.out.1 HCb.out HCP.out.2 HCw.out hcw HWL.out HHT.out
     rw [← HLE.out.1, ← HLE.out.2] at hcall
     clear hcw HCw HWL
     go_wp2_with fail
     refine hcall.mono ?_
     clear hcall
     rintro e w6 ⟨rfl, hb⟩
     have HB' := Aside0.mk (below_then HB.out HB.out.size hb); clear HB; have HB := HB'; clear HB'
     have HCa' := Aside0.mk (Kd.C_below HCa.out hb); clear HCa; have HCa := HCa'; clear HCa'
     have HCb' := Aside0.mk (Kd.C_below HCb.out hb); clear HCb; have HCb := HCb'; clear HCb'
     have H3' := Aside0.mk (Kd.C_below H3.out hb); clear H3; have H3 := H3'; clear H3'
     clear hb
     clear HX wa wb
     have h4 := H4E.out.1
     have e7 := H4E.out.2
     have BW6 := Aside0.mk (Below.refl w6.heap.size w6)
     go_wp2
     clear h4 e7 e9
     go_loopw [22, 23] (fun s22 s23 wr => ∃ (v : Value) (i : Nat) (xs : List S25), s22 = v ∧ s23 = .int .i64 i ∧ Aside0 (i ≤ l3.length ∧ i ≤ 6 ∧ xs.length = i) ∧ Aside0 (Kd.R k25 25 wr w6.heap.size (fun _ => True) v xs) ∧ Aside0 (Below w6.heap.size w6 wr)) (fun _ s23 _ => 6 - (intOf s23).toNat)
     case atStart => exact ⟨_, 0, [], rfl, rfl, ⟨by simp⟩, ⟨Kd.R_nil k25 25 w6 w6.heap.size (fun _ => True)⟩, BW6⟩
     case round =>
      obtain ⟨v, i, xs, rfl, rfl, HI, HX6, HB6⟩ := hrel
      rename World => wr
      by_cases hlt : i < l3.length
      · have hd1 : decide ((i : Int) < (l3.length : Int)) = true := decide_eq_true (by omega)
        by_cases hl6 : i < 6
        · have hd2 : decide ((i : Int) < 6) = true := decide_eq_true (by omega)
          have HLT := Aside0.mk (And.intro hlt hl6)
          obtain ⟨ad3, had, x0, x1⟩ := at_T75 (Kd.C_below H3.out HB6.out) i hlt
          cases had
          have hxb := HA3.out.2 (rd_T25 l3 i) (by unfold rd_T25; rw [Int.toNat_natCast, List.getD_eq_getElem?_getD, List.getElem?_eq_getElem hlt]; exact List.getElem_mem _)
          generalize rd_T25 l3 i = p at x0 x1 hxb
          have z0 : ¬ (la : Int) = 0 := by have := HLN.out; omega
          have z1 : ¬ (lb : Int) = 0 := by have := HLN.out; omega
          have z2 : ((la : Int) == 0) = false := beq_false_of_ne z0
          have z3 : ((lb : Int) == 0) = false := beq_false_of_ne z1
          have z4 : ¬ la = 0 := by omega
          have z5 : ¬ lb = 0 := by omega
          have hi0 : (0 : Int) ≤ (i : Int) := by omega
          have HI1 := Aside0.mk (show wrap64 ((i : Int) + 1) = ((i + 1 : Nat) : Int) by rw [w64' _ (by omega) (by omega)]; rfl)
          have HIL := Aside0.mk (show i + 1 ≤ l3.length ∧ i + 1 ≤ 6 ∧ (xs ++ [(⟨p.f0.tmod (la : Int), p.f1.tmod (lb : Int)⟩ : S25)]).length = i + 1 by have := HI.out; simp; omega)
          have HML := Aside0.mk (show 6 - (i + 1) < 6 - i by omega)
          have HXL := Aside0.mk (show xs.length ≤ 6 by have := HI.out; omega)
          have HXM := Aside0.mk (show xs.length < 1000000 ∧ xs.length + 1 ≤ 1000000 by have := HI.out; omega)
          have e0 : IntKind.i64.wrap p.f0 = p.f0 := by have := hxb.1; unfold isByte at this; rw [i64_w]; unfold wrap64; omega
          have e1 : IntKind.i64.wrap p.f1 = p.f1 := by have := hxb.2; unfold isByte at this; rw [i64_w]; unfold wrap64; omega
          clear hxb
          go_wp2
          have KK := Aside0.mk (And.intro (show wr.drew.cell? (ad3.add (i * 2)) = some (.int .u8 p.f0) from x0) (show wr.drew.cell? ⟨(ad3.add (i * 2)).block, (ad3.add (i * 2)).off + 1, none⟩ = some (.int .u8 p.f1) from x1))
          have HR2 := Aside0.mk (show Kd.R k25 25 wr.drew w6.heap.size (fun _ => True) _ xs from HX6.out)
          have HB2 := Aside0.mk (show Below w6.heap.size w6 wr.drew from HB6.out.trans ((pw_below_drewN (Below.refl _ _) 1 : Below wr.heap.size wr wr.drew).mono HB6.out.size))
          clear x0 x1 HX6 HB6
          refine start_ (n := 23) (S := fun w' => w'.cell? (ad3.add (i * 2)) = some (.int .u8 p.f0) ∧ w'.cell? ⟨(ad3.add (i * 2)).block, (ad3.add (i * 2)).off + 1, none⟩ = some (.int .u8 p.f1)) (ds := [21]) #[false, false, false, false, false, false, false, false, false, false, false, false, false, false, false, false, false, false, false, false, false, false, false] (by kernel_rfl) rfl rfl KK.out (fun hHeld => ?_)
          refine with_tabW prv29_tab prv29_bits (fun HT_ HW_ => ?_)
          generalize wr.drew = w2 at *
          refine take_ (i := 0) (N := some 161) (v := ?_) (a' := ?_) #[true, false, false, false, false, false, false, false, false, false, false, false, false, false, false, false, false, false, false, false, false, false, false] rfl rfl (take_ofW HT_.out HW_.out (by kernel_rfl)) (fun _ _ _ h => h) (Or.inl ⟨by rfl, ?_⟩) hHeld ?_ ?_
          rotate_left
          · rintro w' ⟨s0, s1⟩
            go_simp
            with_reducible rfl
          rotate_left
          · simp only [Act.put, List.setIfInBounds_toArray, List.set_cons_zero, List.set_cons_succ, i64_w, i32_w]
            rfl
          refine take_ (i := 1) (N := some 162) (v := ?_) (a' := ?_) #[true, true, false, false, false, false, false, false, false, false, false, false, false, false, false, false, false, false, false, false, false, false, false] rfl rfl (take_ofW HT_.out HW_.out (by kernel_rfl)) (fun _ _ _ h => h) (Or.inl ⟨by rfl, ?_⟩) hHeld ?_ ?_
          rotate_left
          · rintro w' ⟨s0, s1⟩
            go_simp
            with_reducible rfl
          rotate_left
          · simp only [Act.put, List.setIfInBounds_toArray, List.set_cons_zero, List.set_cons_succ, i64_w, i32_w]
            rfl
          refine take_ (i := 2) (N := some 163) (v := ?_) (a' := ?_) #[true, true, true, false, false, false, false, false, false, false, false, false, false, false, false, false, false, false, false, false, false, false, false] rfl rfl (take_ofW HT_.out HW_.out (by kernel_rfl)) (fun _ _ _ h => h) (Or.inl ⟨by rfl, ?_⟩) hHeld ?_ ?_
          rotate_left
          · rintro w' ⟨s0, s1⟩
            go_simp
            with_reducible rfl
          rotate_left
          · simp only [Act.put, List.setIfInBounds_toArray, List.set_cons_zero, List.set_cons_succ, i64_w, i32_w]
            rfl
          refine take_ (i := 3) (N := some 164) (v := ?_) (a' := ?_) #[true, true, true, true, false, false, false, false, false, false, false, false, false, false, false, false, false, false, false, false, false, false, false] rfl rfl (take_ofW HT_.out HW_.out (by kernel_rfl)) (fun _ _ _ h => h) (Or.inl ⟨by rfl, ?_⟩) hHeld ?_ ?_
          rotate_left
          · rintro w' ⟨s0, s1⟩
            go_simp
            with_reducible rfl
          rotate_left
          · simp only [Act.put, List.setIfInBounds_toArray, List.set_cons_zero, List.set_cons_succ, i64_w, i32_w]
            rfl
          refine take_ (i := 4) (N := some 165) (v := ?_) (a' := ?_) #[true, true, true, true, true, false, false, false, false, false, false, false, false, false, false, false, false, false, false, false, false, false, false] rfl rfl (take_ofW HT_.out HW_.out (by kernel_rfl)) (fun _ _ _ h => h) (Or.inl ⟨by rfl, ?_⟩) hHeld ?_ ?_
          rotate_left
          · rintro w' ⟨s0, s1⟩
            go_simp
            with_reducible rfl
          rotate_left
          · simp only [Act.put, List.setIfInBounds_toArray, List.set_cons_zero, List.set_cons_succ, i64_w, i32_w]
            rfl
          refine take_ (i := 5) (N := some 166) (v := ?_) (a' := ?_) #[true, true, true, true, true, true, false, false, false, false, false, false, false, false, false, false, false, false, false, false, false, false, false] rfl rfl (take_ofW HT_.out HW_.out (by kernel_rfl)) (fun _ _ _ h => h) (Or.inl ⟨by rfl, ?_⟩) hHeld ?_ ?_
          rotate_left
          · rintro w' ⟨s0, s1⟩
            go_simp
            with_reducible rfl
          rotate_left
          · simp only [Act.put, List.setIfInBounds_toArray, List.set_cons_zero, List.set_cons_succ, i64_w, i32_w]
            rfl
          refine take_ (i := 6) (N := some 167) (v := ?_) (a' := ?_) #[true, true, true, true, true, true, true, false, false, false, false, false, false, false, false, false, false, false, false, false, false, false, false] rfl rfl (take_ofW HT_.out HW_.out (by kernel_rfl)) (fun _ _ _ h => h) (Or.inl ⟨by rfl, ?_⟩) hHeld ?_ ?_
          rotate_left
          · rintro w' ⟨s0, s1⟩
            go_simp
            with_reducible rfl
          rotate_left
          · simp only [Act.put, List.setIfInBounds_toArray, List.set_cons_zero, List.set_cons_succ, i64_w, i32_w]
            rfl
          refine take_ (i := 7) (N := some 168) (v := ?_) (a' := ?_) #[true, true, true, true, true, true, true, true, false, false, false, false, false, false, false, false, false, false, false, false, false, false, false] rfl rfl (take_ofW HT_.out HW_.out (by kernel_rfl)) (fun _ _ _ h => h) (Or.inl ⟨by rfl, ?_⟩) hHeld ?_ ?_
          rotate_left
          · rintro w' ⟨s0, s1⟩
            go_simp
            with_reducible rfl
          rotate_left
          · simp only [Act.put, List.setIfInBounds_toArray, List.set_cons_zero, List.set_cons_succ, i64_w, i32_w]
            rfl
          refine take_ (i := 8) (N := some 169) (v := ?_) (a' := ?_) #[true, true, true, true, true, true, true, true, true, false, false, false, false, false, false, false, false, false, false, false, false, false, false] rfl rfl (take_ofW HT_.out HW_.out (by kernel_rfl)) (fun _ _ _ h => h) (Or.inl ⟨by rfl, ?_⟩) hHeld ?_ ?_
          rotate_left
          · rintro w' ⟨s0, s1⟩
            go_simp
            with_reducible rfl
          rotate_left
          · simp only [Act.put, List.setIfInBounds_toArray, List.set_cons_zero, List.set_cons_succ, i64_w, i32_w]
            rfl
          refine take_ (i := 9) (N := some 170) (v := ?_) (a' := ?_) #[true, true, true, true, true, true, true, true, true, true, false, false, false, false, false, false, false, false, false, false, false, false, false] rfl rfl (take_ofW HT_.out HW_.out (by kernel_rfl)) (fun _ _ _ h => h) (Or.inl ⟨by rfl, ?_⟩) hHeld ?_ ?_
          rotate_left
          · rintro w' ⟨s0, s1⟩
            go_simp
            with_reducible rfl
          rotate_left
          · simp only [Act.put, List.setIfInBounds_toArray, List.set_cons_zero, List.set_cons_succ, i64_w, i32_w]
            rfl
          refine take_ (i := 10) (N := some 171) (v := ?_) (a' := ?_) #[true, true, true, true, true, true, true, true, true, true, true, false, false, false, false, false, false, false, false, false, false, false, false] rfl rfl (take_ofW HT_.out HW_.out (by kernel_rfl)) (fun _ _ _ h => h) (Or.inl ⟨by rfl, ?_⟩) hHeld ?_ ?_
          rotate_left
          · rintro w' ⟨s0, s1⟩
            go_simp
            with_reducible rfl
          rotate_left
          · simp only [Act.put, List.setIfInBounds_toArray, List.set_cons_zero, List.set_cons_succ, i64_w, i32_w]
            rfl
          refine take_ (i := 11) (N := some 172) (v := ?_) (a' := ?_) #[true, true, true, true, true, true, true, true, true, true, true, true, false, false, false, false, false, false, false, false, false, false, false] rfl rfl (take_ofW HT_.out HW_.out (by kernel_rfl)) (fun _ _ _ h => h) (Or.inl ⟨by rfl, ?_⟩) hHeld ?_ ?_
          rotate_left
          · rintro w' ⟨s0, s1⟩
            go_simp
            with_reducible rfl
          rotate_left
          · simp only [Act.put, List.setIfInBounds_toArray, List.set_cons_zero, List.set_cons_succ, i64_w, i32_w]
            rfl
          refine take_ (i := 12) (N := some 173) (v := ?_) (a' := ?_) #[true, true, true, true, true, true, true, true, true, true, true, true, true, false, false, false, false, false, false, false, false, false, false] rfl rfl (take_ofW HT_.out HW_.out (by kernel_rfl)) (fun _ _ _ h => h) (Or.inl ⟨by rfl, ?_⟩) hHeld ?_ ?_
          rotate_left
          · rintro w' ⟨s0, s1⟩
            go_simp
            with_reducible rfl
          rotate_left
          · simp only [Act.put, List.setIfInBounds_toArray, List.set_cons_zero, List.set_cons_succ, i64_w, i32_w]
            rfl
          refine take_ (i := 13) (N := some 174) (v := ?_) (a' := ?_) #[true, true, true, true, true, true, true, true, true, true, true, true, true, true, false, false, false, false, false, false, false, false, false] rfl rfl (take_ofW HT_.out HW_.out (by kernel_rfl)) (fun _ _ _ h => h) (Or.inl ⟨by rfl, ?_⟩) hHeld ?_ ?_
          rotate_left
          · rintro w' ⟨s0, s1⟩
            go_simp
            with_reducible rfl
          rotate_left
          · simp only [Act.put, List.setIfInBounds_toArray, List.set_cons_zero, List.set_cons_succ, i64_w, i32_w]
            rfl
          refine take_ (i := 14) (N := some 175) (v := ?_) (a' := ?_) #[true, true, true, true, true, true, true, true, true, true, true, true, true, true, true, false, false, false, false, false, false, false, false] rfl rfl (take_ofW HT_.out HW_.out (by kernel_rfl)) (fun _ _ _ h => h) (Or.inl ⟨by rfl, ?_⟩) hHeld ?_ ?_
          rotate_left
          · rintro w' ⟨s0, s1⟩
            go_simp
            with_reducible rfl
          rotate_left
          · simp only [Act.put, List.setIfInBounds_toArray, List.set_cons_zero, List.set_cons_succ, i64_w, i32_w]
            rfl
          refine take_ (i := 15) (N := some 176) (v := ?_) (a' := ?_) #[true, true, true, true, true, true, true, true, true, true, true, true, true, true, true, true, false, false, false, false, false, false, false] rfl rfl (take_ofW HT_.out HW_.out (by kernel_rfl)) (fun _ _ _ h => h) (Or.inl ⟨by rfl, ?_⟩) hHeld ?_ ?_
          rotate_left
          · rintro w' ⟨s0, s1⟩
            go_simp
            with_reducible rfl
          rotate_left
          · simp only [Act.put, List.setIfInBounds_toArray, List.set_cons_zero, List.set_cons_succ, i64_w, i32_w]
            rfl
          refine take_ (i := 16) (N := some 177) (v := ?_) (a' := ?_) #[true, true, true, true, true, true, true, true, true, true, true, true, true, true, true, true, true, false, false, false, false, false, false] rfl rfl (take_ofW HT_.out HW_.out (by kernel_rfl)) (fun _ _ _ h => h) (Or.inl ⟨by rfl, ?_⟩) hHeld ?_ ?_
          rotate_left
          · rintro w' ⟨s0, s1⟩
            go_simp
            with_reducible rfl
          rotate_left
          · simp only [Act.put, List.setIfInBounds_toArray, List.set_cons_zero, List.set_cons_succ, i64_w, i32_w]
            rfl
          refine take_ (i := 17) (N := some 178) (v := ?_) (a' := ?_) #[true, true, true, true, true, true, true, true, true, true, true, true, true, true, true, true, true, true, false, false, false, false, false] rfl rfl (take_ofW HT_.out HW_.out (by kernel_rfl)) (fun _ _ _ h => h) (Or.inl ⟨by rfl, ?_⟩) hHeld ?_ ?_
          rotate_left
          · rintro w' ⟨s0, s1⟩
            go_simp
            with_reducible rfl
          rotate_left
          · simp only [Act.put, List.setIfInBounds_toArray, List.set_cons_zero, List.set_cons_succ, i64_w, i32_w]
            rfl
          refine take_ (i := 18) (N := some 179) (v := ?_) (a' := ?_) #[true, true, true, true, true, true, true, true, true, true, true, true, true, true, true, true, true, true, true, false, false, false, false] rfl rfl (take_ofW HT_.out HW_.out (by kernel_rfl)) (fun _ _ _ h => h) (Or.inl ⟨by rfl, ?_⟩) hHeld ?_ ?_
          rotate_left
          · rintro w' ⟨s0, s1⟩
            go_simp
            with_reducible rfl
          rotate_left
          · simp only [Act.put, List.setIfInBounds_toArray, List.set_cons_zero, List.set_cons_succ, i64_w, i32_w]
            rfl
          refine take_ (i := 19) (N := some 180) (v := ?_) (a' := ?_) #[true, true, true, true, true, true, true, true, true, true, true, true, true, true, true, true, true, true, true, true, false, false, false] rfl rfl (take_ofW HT_.out HW_.out (by kernel_rfl)) (fun _ _ _ h => h) (Or.inl ⟨by rfl, ?_⟩) hHeld ?_ ?_
          rotate_left
          · rintro w' ⟨s0, s1⟩
            go_simp
            with_reducible rfl
          rotate_left
          · simp only [Act.put, List.setIfInBounds_toArray, List.set_cons_zero, List.set_cons_succ, i64_w, i32_w]
            rfl
          refine one_ (i := 20) (N := some 181) #[true, true, true, true, true, true, true, true, true, true, true, true, true, true, true, true, true, true, true, true, true, false, false] rfl rfl (one_of HT_.out (by kernel_rfl)) (by decide) (fun K hK => ?_)
          refine value_ (v := .slice (some ⟨w2.heap.size, 0, none⟩) 1 1) (w1 := w2.alloc (.cells #[.int .i64 (p.f0.tmod (la : Int)), .int .i64 (p.f1.tmod (lb : Int))] 25)) (by rfl) rfl (by go_simp) ?_
          have hba := below_alloc (Below.refl w2.heap.size w2) (.cells #[.int .i64 (p.f0.tmod (la : Int)), .int .i64 (p.f1.tmod (lb : Int))] 25)
          have KA := Aside0.mk (And.intro (pw_cell_below hba KK.out.1) (pw_cell_below hba KK.out.2))
          clear hba
          refine hK.out _ _ KA.out (fun hHeld => ?_)
          clear hK K
          refine norm_ (a' := ?_) ?_ ?_
          rotate_left
          · show Act.put _ (some 181) _ = _
            simp only [Act.put, List.setIfInBounds_toArray, List.set_cons_zero, List.set_cons_succ, i64_w, i32_w]
            rfl
          refine last_ (i := 21) (N := some 182) #[true, true, true, true, true, true, true, true, true, true, true, true, true, true, true, true, true, true, true, true, true, true, false] rfl rfl (one_of HT_.out (by kernel_rfl)) (by decide) (fun K hK => ?_)
          refine Kd.R_append_step k25 (w0 := w6) (W := w2) w6.heap.size (by rfl) (.tmp 161) (.tmp 181) 38 25 (.agg #[(.int .i64 0), (.int .i64 0)]) 16 rfl Try.underlying38 info25 rfl (by decide) (by omega) _ xs (⟨(p.f0.tmod (la : Int)), (p.f1.tmod (lb : Int))⟩ : S25) [.int .i64 (p.f0.tmod (la : Int)), .int .i64 (p.f1.tmod (lb : Int))] (fun _ => True) (fun _ => False) rfl rfl (k25_mkM _ _ _ (⟨(p.f0.tmod (la : Int)), (p.f1.tmod (lb : Int))⟩ : S25)) (fun _ hk => hk.elim) (fun _ _ => trivial) HR2.out HB2.out (HB2.out.size) (by have := HXL.out; omega) ?_
          intro v1 w3 hR3 hb3 hg3 hat3
          refine hK.out _ _ ?_
          clear hK K
          refine norm_ (a' := ?_) ?_ ?_
          rotate_left
          · show Act.put _ (some 182) _ = _
            simp only [Act.put, List.setIfInBounds_toArray, List.set_cons_zero, List.set_cons_succ, i64_w, i32_w]
            rfl
          refine pure_ (i := 22) (N := some 22) (v := ?_) (a' := ?_) #[true, true, true, true, true, true, true, true, true, true, true, true, true, true, true, true, true, true, true, true, true, true, true] rfl rfl (any_of HT_.out (by kernel_rfl)) (fun _ _ _ h => h) (Or.inl ⟨by rfl, ?_⟩) ?_ ?_
          rotate_left
          · intro w'
            go_simp
            with_reducible rfl
          rotate_left
          · simp only [Act.put, List.setIfInBounds_toArray, List.set_cons_zero, List.set_cons_succ, i64_w, i32_w]
            rfl
          refine done_ (done_of HT_.out (by kernel_rfl)) ?_
          go_wp2
          refine ⟨⟨v1, i + 1, xs ++ [⟨p.f0.tmod (la : Int), p.f1.tmod (lb : Int)⟩], rfl, rfl, ⟨HIL.out⟩, ⟨hR3⟩, ⟨hb3⟩⟩, ?_⟩
          exact HML.out
        · have hd2 : decide ((i : Int) < 6) = false := decide_eq_false (by omega)
          obtain ⟨Ax, cx, rfl, hcx, hCx⟩ := Kd.R_reads HX6.out
          have HCx := Aside0.mk hCx
          clear hCx HX6
          have hb6 := HB6.out
          clear HB6
          have HB' := Aside0.mk (below_then HB.out HB.out.size hb6); clear HB; have HB := HB'; clear HB'
          have HCa' := Aside0.mk (Kd.C_below HCa.out hb6); clear HCa; have HCa := HCa'; clear HCa'
          have HCb' := Aside0.mk (Kd.C_below HCb.out hb6); clear HCb; have HCb := HCb'; clear HCb'
          clear hb6
          obtain ⟨r, hr⟩ : ∃ r, align_Verify.f (madeF l0) (madeF l1) n xs = some r := ⟨_, by unfold align_Verify.f; rw [HE.out]; rfl⟩
          have HV := Aside0.mk hr
          clear hr
          have hcall := align_Verify.calls _ _ (madeF l0) _ _ (madeF l1) n Ax cx xs r _ HCa.out HCP.out.1 HCb.out HCP.out.2 HCx.out hcx (by have := HI.out; omega) HV.out
          rw [← HLE.out.1, ← HLE.out.2] at hcall
          go_wp2_with fail
          refine hcall.mono ?_
          clear hcall
          rintro e w7 ⟨rfl, hb⟩
          have HB' := Aside0.mk (below_then HB.out HB.out.size hb); clear HB; have HB := HB'; clear HB'
          have HCa' := Aside0.mk (Kd.C_below HCa.out hb); clear HCa; have HCa := HCa'; clear HCa'
          have HCb' := Aside0.mk (Kd.C_below HCb.out hb); clear HCb; have HCb := HCb'; clear HCb'
          have HCx' := Aside0.mk (Kd.C_below HCx.out hb); clear HCx; have HCx := HCx'; clear HCx'
          clear hb
          by_cases hr0 : r = 0
          · subst hr0
            have HBR := Aside0.mk (ver_bar HR.out HV.out)
            have hgn : n < G := by
             have h1 : ¬ G ≤ n := fun hg => bar_way HBR.out ((gap_iff HR.out n).1 (by rw [← HGG.out]; exact hg))
             omega
            have hd5 : decide (n < G) = true := decide_eq_true hgn
            have hd6 : decide (G > n) = true := decide_eq_true hgn
            clear hgn
            go_wp2_with fail
            refine (crossed_ok _ _ (madeF l0) _ _ (madeF l1) la lb n Ax cx xs _ HLE.out.1 HLE.out.2 (by rw [HLE.out.1]; exact HCa.out) (by rw [HLE.out.1]; exact HCP.out.1) (by rw [HLE.out.2]; exact HCb.out) (by rw [HLE.out.2]; exact HCP.out.2) HCx.out hcx (by have := HI.out; omega) HR.out HBR.out).mono ?_
            rintro e w8 ⟨rfl, hb⟩
            have HB' := Aside0.mk (below_then HB.out HB.out.size hb); clear HB; have HB := HB'; clear HB'
            clear hb
            go_wp2_with fail
            refine (works_calls _).mono ?_
            rintro e w9 ⟨rfl, hb⟩
            have HB' := Aside0.mk (below_then HB.out HB.out.size hb); clear HB; have HB := HB'; clear HB'
            clear hb
            go_wp2
            go_ret
            exact ⟨rfl, HB.out⟩
          · have hd5 : decide (r = 0) = false := decide_eq_false hr0
            have hd6 : (r == 0) = false := beq_false_of_ne hr0
            go_wp2_with fail
            refine (works_calls _).mono ?_
            rintro e w8 ⟨rfl, hb⟩
            have HB' := Aside0.mk (below_then HB.out HB.out.size hb); clear HB; have HB := HB'; clear HB'
            clear hb
            go_wp2
            go_ret
            exact ⟨rfl, HB.out⟩
      · have hd1 : decide ((i : Int) < (l3.length : Int)) = false := decide_eq_false (by omega)
        obtain ⟨Ax, cx, rfl, hcx, hCx⟩ := Kd.R_reads HX6.out
        have HCx := Aside0.mk hCx
        clear hCx HX6
        have hb6 := HB6.out
        clear HB6
        have HB' := Aside0.mk (below_then HB.out HB.out.size hb6); clear HB; have HB := HB'; clear HB'
        have HCa' := Aside0.mk (Kd.C_below HCa.out hb6); clear HCa; have HCa := HCa'; clear HCa'
        have HCb' := Aside0.mk (Kd.C_below HCb.out hb6); clear HCb; have HCb := HCb'; clear HCb'
        clear hb6
        obtain ⟨r, hr⟩ : ∃ r, align_Verify.f (madeF l0) (madeF l1) n xs = some r := ⟨_, by unfold align_Verify.f; rw [HE.out]; rfl⟩
        have HV := Aside0.mk hr
        clear hr
        have hcall := align_Verify.calls _ _ (madeF l0) _ _ (madeF l1) n Ax cx xs r _ HCa.out HCP.out.1 HCb.out HCP.out.2 HCx.out hcx (by have := HI.out; omega) HV.out
        rw [← HLE.out.1, ← HLE.out.2] at hcall
        go_wp2_with fail
        refine hcall.mono ?_
        clear hcall
        rintro e w7 ⟨rfl, hb⟩
        have HB' := Aside0.mk (below_then HB.out HB.out.size hb); clear HB; have HB := HB'; clear HB'
        have HCa' := Aside0.mk (Kd.C_below HCa.out hb); clear HCa; have HCa := HCa'; clear HCa'
        have HCb' := Aside0.mk (Kd.C_below HCb.out hb); clear HCb; have HCb := HCb'; clear HCb'
        have HCx' := Aside0.mk (Kd.C_below HCx.out hb); clear HCx; have HCx := HCx'; clear HCx'
        clear hb
        by_cases hr0 : r = 0
        · subst hr0
          have HBR := Aside0.mk (ver_bar HR.out HV.out)
          have hgn : n < G := by
           have h1 : ¬ G ≤ n := fun hg => bar_way HBR.out ((gap_iff HR.out n).1 (by rw [← HGG.out]; exact hg))
           omega
          have hd5 : decide (n < G) = true := decide_eq_true hgn
          have hd6 : decide (G > n) = true := decide_eq_true hgn
          clear hgn
          go_wp2_with fail
          refine (crossed_ok _ _ (madeF l0) _ _ (madeF l1) la lb n Ax cx xs _ HLE.out.1 HLE.out.2 (by rw [HLE.out.1]; exact HCa.out) (by rw [HLE.out.1]; exact HCP.out.1) (by rw [HLE.out.2]; exact HCb.out) (by rw [HLE.out.2]; exact HCP.out.2) HCx.out hcx (by have := HI.out; omega) HR.out HBR.out).mono ?_
          rintro e w8 ⟨rfl, hb⟩
          have HB' := Aside0.mk (below_then HB.out HB.out.size hb); clear HB; have HB := HB'; clear HB'
          clear hb
          go_wp2_with fail
          refine (works_calls _).mono ?_
          rintro e w9 ⟨rfl, hb⟩
          have HB' := Aside0.mk (below_then HB.out HB.out.size hb); clear HB; have HB := HB'; clear HB'
          clear hb
          go_wp2
          go_ret
          exact ⟨rfl, HB.out⟩
        · have hd5 : decide (r = 0) = false := decide_eq_false hr0
          have hd6 : (r == 0) = false := beq_false_of_ne hr0
          go_wp2_with fail
          refine (works_calls _).mono ?_
          rintro e w8 ⟨rfl, hb⟩
          have HB' := Aside0.mk (below_then HB.out HB.out.size hb); clear HB; have HB := HB'; clear HB'
          clear hb
          go_wp2
          go_ret
          exact ⟨rfl, HB.out⟩
end Go.Proofs.Ytkocigldchiifaa.H
