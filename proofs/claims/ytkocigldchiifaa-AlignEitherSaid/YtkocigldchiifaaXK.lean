/- Texts U4 of this chapter, one behind the other. -/
import Derived.Test.YtkocigldchiifaaXF
import Derived.Test.YtkocigldchiifaaXH
import Derived.Test.YtkocigldchiifaaXJ
import Derived.Test.YtkocigldchiifaaXL

/- pianolalaw07.AlignEither. -/
namespace Go.Proofs.Ytkocigldchiifaa.H
open Go.RowKit Go.Proofs.YtkocigldchiifaaW.PrintWords Go.Proofs.YtkocigldchiifaaW.PrintLast Go.Proofs.YtkocigldchiifaaW.PrintMore
open Go.Shelf Go.Proofs.Ytkocigldchiifaa.QA
set_option linter.unusedVariables false
set_option linter.unusedSimpArgs false

set_option maxRecDepth 100000 in
set_option maxHeartbeats 8000000 in
theorem alignEither_calls (A0 : Option Addr) (c0 : Nat) (l0 : List S59) (A1 : Option Addr) (c1 : Nat) (l1 : List S59) (a2 : Int) (gr : Bool) (w : World) (hC0 : Kd.C k111 w A0 l0.length l0) (hc0 : l0.length ≤ c0) (hb0 : ∀ x ∈ l0, Byte3 x) (hC1 : Kd.C k111 w A1 l1.length l1) (hc1 : l1.length ≤ c1) (hb1 : ∀ x ∈ l1, Byte3 x) (h2 : isByte a2) :
  Calls Try.prog 11 #[.slice A0 l0.length c0, .slice A1 l1.length c1, .int .u8 a2, .bool gr] w fun e w' => e = .returned (.bool true) ∧ Below w.heap.size w w' := by
 have hu25 := Try.underlying25
 have H0 := Aside0.mk hC0
 have H1 := Aside0.mk hC1
 have HA0 := Aside0.mk (And.intro hc0 hb0)
 have HA1 := Aside0.mk (And.intro hc1 hb1)
 have HB := Aside0.mk (Below.refl w.heap.size w)
 have hlena := made_len l0
 have hlenb := made_len l1
 unfold isByte at h2
 have r01 := made_rolls hb0 hb1
 have HR := Aside0.mk r01
 have HE := Aside0.mk (check_ok r01)
 obtain ⟨t, ht⟩ : ∃ t : Int, t = a2 % 30 := ⟨_, rfl⟩
 have e7 : a2.tmod 30 = t := by rw [ht]; exact Int.tmod_eq_emod_of_nonneg h2.1
 have ht0 : 0 ≤ t ∧ t ≤ 29 := by omega
 have HT := Aside0.mk ht0
 have HLN := Aside0.mk (And.intro hlena.2 hlenb.2)
 clear hC0 hc0 hb0 hC1 hc1 hb1 r01 hlena hlenb ht ht0
 obtain ⟨n, hn⟩ : ∃ n : Int, n = if gr = true then 999999 else t := ⟨_, rfl⟩
 have hn0 : 0 ≤ n := by rw [hn]; have := HT.out; split <;> omega
 obtain ⟨G, W, L, k, k', hF⟩ := eit_f HR.out HLN.out hn0
 have HF := Aside0.mk hF
 clear hF hn0
 cases gr with
 | true =>
  have hn' : (999999 : Int) = n := by rw [hn]; rfl
  clear hn
  go_enter Try.func11, Try.ntmps11
  go_wp2_with fail
  refine (made_calls A0 c0 l0 _ H0.out HA0.out.1 HA0.out.2).mono ?_
  rintro e w1 ⟨v, rfl, hR, hb⟩
  have hbb := hb; clear hb
  have HB' := Aside0.mk (below_then HB.out HB.out.size hbb); clear HB; have HB := HB'; clear HB'
  have H0' := Aside0.mk (Kd.C_below H0.out hbb); clear H0; have H0 := H0'; clear H0'
  have H1' := Aside0.mk (Kd.C_below H1.out hbb); clear H1; have H1 := H1'; clear H1'
  clear hbb
  obtain ⟨Aa, ca, rfl, hca, hCa⟩ := Kd.R_reads hR
  clear hR
  have HCa := Aside0.mk hCa; clear hCa
  go_wp2_with fail
  refine (made_calls A1 c1 l1 _ H1.out HA1.out.1 HA1.out.2).mono ?_
  rintro e w2 ⟨v, rfl, hR, hb⟩
  have hbb := hb; clear hb
  have HB' := Aside0.mk (below_then HB.out HB.out.size hbb); clear HB; have HB := HB'; clear HB'
  have H0' := Aside0.mk (Kd.C_below H0.out hbb); clear H0; have H0 := H0'; clear H0'
  have H1' := Aside0.mk (Kd.C_below H1.out hbb); clear H1; have H1 := H1'; clear H1'
  have HCa' := Aside0.mk (Kd.C_below HCa.out hbb); clear HCa; have HCa := HCa'; clear HCa'
  clear hbb
  obtain ⟨Ab, cb, rfl, hcb, hCb⟩ := Kd.R_reads hR
  clear hR
  have HCb := Aside0.mk hCb; clear hCb
  go_wp2_with fail
  refine (pianolalaw07_heights.calls k Aa ca (madeF l0) Ab cb (madeF l1) 0 0 0 L _ HCa.out hca HCb.out hcb HF.out.heights).mono ?_
  rintro e w3 ⟨v, rfl, hR, hb⟩
  have hbb := hb; clear hb
  have HB' := Aside0.mk (below_then HB.out HB.out.size hbb); clear HB; have HB := HB'; clear HB'
  have HCa' := Aside0.mk (Kd.C_below HCa.out hbb); clear HCa; have HCa := HCa'; clear HCa'
  have HCb' := Aside0.mk (Kd.C_below HCb.out hbb); clear HCb; have HCb := HCb'; clear HCb'
  clear hbb
  obtain ⟨Al, cl, rfl, hcl, hCl⟩ := Kd.R_reads hR
  clear hR
  have HCl := Aside0.mk hCl; clear hCl
  go_wp2_with fail
  refine (align_Gap.calls Aa ca (madeF l0) Ab cb (madeF l1) G 0 _ HCa.out hca HCb.out hcb HF.out.gap).mono ?_
  rintro e w4 ⟨rfl, hb⟩
  have hbb := hb; clear hb
  have HB' := Aside0.mk (below_then HB.out HB.out.size hbb); clear HB; have HB := HB'; clear HB'
  have HCa' := Aside0.mk (Kd.C_below HCa.out hbb); clear HCa; have HCa := HCa'; clear HCa'
  have HCb' := Aside0.mk (Kd.C_below HCb.out hbb); clear HCb; have HCb := HCb'; clear HCb'
  have HCl' := Aside0.mk (Kd.C_below HCl.out hbb); clear HCl; have HCl := HCl'; clear HCl'
  clear hbb
  go_wp2_with fail
  refine (align_Walk.calls Aa ca (madeF l0) Ab cb (madeF l1) W 0 _ HCa.out hca HCb.out hcb HF.out.walk).mono ?_
  rintro e w5 ⟨v, rfl, hR, hb⟩
  have hbb := hb; clear hb
  have HB' := Aside0.mk (below_then HB.out HB.out.size hbb); clear HB; have HB := HB'; clear HB'
  have HCa' := Aside0.mk (Kd.C_below HCa.out hbb); clear HCa; have HCa := HCa'; clear HCa'
  have HCb' := Aside0.mk (Kd.C_below HCb.out hbb); clear HCb; have HCb := HCb'; clear HCb'
  have HCl' := Aside0.mk (Kd.C_below HCl.out hbb); clear HCl; have HCl := HCl'; clear HCl'
  clear hbb
  obtain ⟨Aw, cw, rfl, hcw, hCw⟩ := Kd.R_reads hR
  clear hR
  have HCw := Aside0.mk hCw; clear hCw
  go_wp2_with fail
  refine (align_Height.calls Aa ca (madeF l0) Ab cb (madeF l1) Aw cw W G 0 _ HCa.out hca HCb.out hcb HCw.out hcw HF.out.wlen HF.out.height).mono ?_
  rintro e w6 ⟨rfl, hb⟩
  have hbb := hb; clear hb
  have HB' := Aside0.mk (below_then HB.out HB.out.size hbb); clear HB; have HB := HB'; clear HB'
  have HCa' := Aside0.mk (Kd.C_below HCa.out hbb); clear HCa; have HCa := HCa'; clear HCa'
  have HCb' := Aside0.mk (Kd.C_below HCb.out hbb); clear HCb; have HCb := HCb'; clear HCb'
  have HCl' := Aside0.mk (Kd.C_below HCl.out hbb); clear HCl; have HCl := HCl'; clear HCl'
  have HCw' := Aside0.mk (Kd.C_below HCw.out hbb); clear HCw; have HCw := HCw'; clear HCw'
  clear hbb
  go_wp2_with fail
  refine (pianolalaw07_least.calls k' Al cl L G _ HCl.out hcl HF.out.least).mono ?_
  rintro e w7 ⟨rfl, hb⟩
  have hbb := hb; clear hb
  have HB' := Aside0.mk (below_then HB.out HB.out.size hbb); clear HB; have HB := HB'; clear HB'
  have HCa' := Aside0.mk (Kd.C_below HCa.out hbb); clear HCa; have HCa := HCa'; clear HCa'
  have HCb' := Aside0.mk (Kd.C_below HCb.out hbb); clear HCb; have HCb := HCb'; clear HCb'
  have HCl' := Aside0.mk (Kd.C_below HCl.out hbb); clear HCl; have HCl := HCl'; clear HCl'
  have HCw' := Aside0.mk (Kd.C_below HCw.out hbb); clear HCw; have HCw := HCw'; clear HCw'
  clear hbb
  clear HCw hcw
  go_wp2_with fail
  rw [hn']
  refine (barrier_ok Aa ca (madeF l0) Ab cb (madeF l1) n _ HCa.out hca HCb.out hcb HE.out).mono ?_
  rintro e w8 ⟨hb, hway⟩
  clear h2
  have hbb := hb; clear hb
  have HB' := Aside0.mk (below_then HB.out HB.out.size hbb); clear HB; have HB := HB'; clear HB'
  have HCa' := Aside0.mk (Kd.C_below HCa.out hbb); clear HCa; have HCa := HCa'; clear HCa'
  have HCb' := Aside0.mk (Kd.C_below HCb.out hbb); clear HCb; have HCb := HCb'; clear HCb'
  have HCl' := Aside0.mk (Kd.C_below HCl.out hbb); clear HCl; have HCl := HCl'; clear HCl'
  clear hbb
  rcases hway with ⟨v, l, rfl, hR, hbar, hll⟩ | ⟨rfl, hno⟩
  · have HNO := Aside0.mk (eit_no HF.out hbar)
    have HBR := Aside0.mk hbar
    have HLL := Aside0.mk hll
    clear hbar hll
    obtain ⟨Ac, cc, rfl, hcc, hCc⟩ := Kd.R_reads hR
    clear hR
    have HCc := Aside0.mk hCc; clear hCc
    go_wp2_with fail
    refine (align_Walks.calls Aa ca (madeF l0) Ab cb (madeF l1) n ((cntL L n : Nat) : Int) 0 _ HCa.out hca HCb.out hcb HF.out.walks).mono ?_
    rintro e w9 ⟨rfl, hb⟩
    have hbb := hb; clear hb
    have HB' := Aside0.mk (below_then HB.out HB.out.size hbb); clear HB; have HB := HB'; clear HB'
    have HCa' := Aside0.mk (Kd.C_below HCa.out hbb); clear HCa; have HCa := HCa'; clear HCa'
    have HCb' := Aside0.mk (Kd.C_below HCb.out hbb); clear HCb; have HCb := HCb'; clear HCb'
    have HCl' := Aside0.mk (Kd.C_below HCl.out hbb); clear HCl; have HCl := HCl'; clear HCl'
    have HCc' := Aside0.mk (Kd.C_below HCc.out hbb); clear HCc; have HCc := HCc'; clear HCc'
    clear hbb
    go_wp2
    go_loopw [21, 93] (fun s21 s93 wr => ∃ j : Nat, s93 = .int .i64 j ∧ s21 = .int .i64 (cntL (L.take j) n : Nat) ∧ Aside0 (j ≤ L.length) ∧ Aside0 (Below w9.heap.size w9 wr)) (fun _ s93 _ => L.length - (intOf s93).toNat)
    case atStart => exact ⟨0, rfl, by rw [List.take_zero]; rfl, ⟨Nat.zero_le _⟩, ⟨Below.refl _ _⟩⟩
    case round =>
     obtain ⟨j, rfl, rfl, HJ, HB9⟩ := hrel
     by_cases hlt : j < L.length
     · have hd : decide ((j : Int) < (L.length : Int)) = true := decide_eq_true (by omega)
       have HJL := Aside0.mk hlt
       have HJW := Aside0.mk (show wrap64 ((j : Int) + 1) = ((j + 1 : Nat) : Int) by have := HF.out.len; rw [wrap_small _ (by omega) (by omega)]; rfl)
       have HCW := Aside0.mk (show wrap64 (((cntL (L.take j) n : Nat) : Int) + 1) = ((cntL (L.take j) n + 1 : Nat) : Int) by have := HF.out.len; have := cntL_le L n j; rw [wrap_small _ (by omega) (by omega)]; rfl)
       have p1 : 0 ≤ (j : Int) := by omega
       have q1 : (j : Int) < (L.length : Int) := by omega
       obtain ⟨ad, had, x0⟩ := Kd.at_int (Kd.C_below HCl.out HB9.out) (j : Int) p1 q1
       cases had
       rw [Int.toNat_natCast] at x0
       have HS := Aside0.mk (cntL_snoc L n hlt)
       clear p1 q1
       by_cases hx : rd L (j : Int) ≤ n
       · have hd2 : decide (rd L (j : Int) ≤ n) = true := decide_eq_true hx
         have HX := Aside0.mk hx
         clear hx
         go_wp2
         refine ⟨⟨j + 1, congrArg _ HJW.out, ?_, ⟨HJL.out⟩, HB9⟩, ?_⟩
         · rw [HS.out, if_pos HX.out]; exact congrArg _ HCW.out
         · rw [HJW.out]; have := HJL.out; show L.length - (((j + 1 : Nat) : Int)).toNat < L.length - ((j : Int)).toNat; omega
       · have hd2 : decide (rd L (j : Int) ≤ n) = false := decide_eq_false hx
         have HX := Aside0.mk hx
         clear hx
         go_wp2
         refine ⟨⟨j + 1, congrArg _ HJW.out, ?_, ⟨HJL.out⟩, HB9⟩, ?_⟩
         · rw [HS.out, if_neg HX.out]
         · rw [HJW.out]; have := HJL.out; show L.length - (((j + 1 : Nat) : Int)).toNat < L.length - ((j : Int)).toNat; omega
     · obtain rfl : j = L.length := by have := HJ.out; omega
       have hd : decide ((L.length : Int) < (L.length : Int)) = false := decide_eq_false (by omega)
       clear hlt
       rename World => wZ
       rw [List.take_length]
       have HB' := Aside0.mk (below_then HB.out HB.out.size HB9.out); clear HB; have HB := HB'; clear HB'
       have HCa' := Aside0.mk (Kd.C_below HCa.out HB9.out); clear HCa; have HCa := HCa'; clear HCa'
       have HCb' := Aside0.mk (Kd.C_below HCb.out HB9.out); clear HCb; have HCb := HCb'; clear HCb'
       have HCl' := Aside0.mk (Kd.C_below HCl.out HB9.out); clear HCl; have HCl := HCl'; clear HCl'
       have HCc' := Aside0.mk (Kd.C_below HCc.out HB9.out); clear HCc; have HCc := HCc'; clear HCc'
       clear HB9
       have z0 : decide (G ≤ n) = false := decide_eq_false (by have := HNO.out.1; omega)
       have z1 : cntL L n = 0 := HNO.out.2
       simp only [z1]
       have HV := Aside0.mk (bar_ver HR.out HBR.out)
       go_wp2_with fail
       refine (align_Verify.calls Aa ca (madeF l0) Ab cb (madeF l1) n Ac cc l 0 _ HCa.out hca HCb.out hcb HCc.out hcc (by have := HLL.out; omega) HV.out).mono ?_
       rintro e w10 ⟨rfl, hb⟩
       have hbb := hb; clear hb
       have HB' := Aside0.mk (below_then HB.out HB.out.size hbb); clear HB; have HB := HB'; clear HB'
       have HCa' := Aside0.mk (Kd.C_below HCa.out hbb); clear HCa; have HCa := HCa'; clear HCa'
       have HCb' := Aside0.mk (Kd.C_below HCb.out hbb); clear HCb; have HCb := HCb'; clear HCb'
       have HCl' := Aside0.mk (Kd.C_below HCl.out hbb); clear HCl; have HCl := HCl'; clear HCl'
       have HCc' := Aside0.mk (Kd.C_below HCc.out hbb); clear HCc; have HCc := HCc'; clear HCc'
       clear hbb
       go_wp2_with fail
       refine (crossed_ok Aa ca (madeF l0) Ab cb (madeF l1) _ _ n Ac cc l _ rfl rfl HCa.out hca HCb.out hcb HCc.out hcc (by have := HLL.out; omega) HR.out HBR.out).mono ?_
       rintro e w11 ⟨rfl, hb⟩
       have hbb := hb; clear hb
       have HB' := Aside0.mk (below_then HB.out HB.out.size hbb); clear HB; have HB := HB'; clear HB'
       have HCa' := Aside0.mk (Kd.C_below HCa.out hbb); clear HCa; have HCa := HCa'; clear HCa'
       have HCb' := Aside0.mk (Kd.C_below HCb.out hbb); clear HCb; have HCb := HCb'; clear HCb'
       have HCl' := Aside0.mk (Kd.C_below HCl.out hbb); clear HCl; have HCl := HCl'; clear HCl'
       have HCc' := Aside0.mk (Kd.C_below HCc.out hbb); clear HCc; have HCc := HCc'; clear HCc'
       clear hbb
       go_wp2_with fail
       refine (works_calls _).mono ?_
       rintro e w12 ⟨rfl, hb⟩
       have hbb := hb; clear hb
       have HB' := Aside0.mk (below_then HB.out HB.out.size hbb); clear HB; have HB := HB'; clear HB'
       have HCa' := Aside0.mk (Kd.C_below HCa.out hbb); clear HCa; have HCa := HCa'; clear HCa'
       have HCb' := Aside0.mk (Kd.C_below HCb.out hbb); clear HCb; have HCb := HCb'; clear HCb'
       have HCl' := Aside0.mk (Kd.C_below HCl.out hbb); clear HCl; have HCl := HCl'; clear HCl'
       have HCc' := Aside0.mk (Kd.C_below HCc.out hbb); clear HCc; have HCc := HCc'; clear HCc'
       clear hbb
       go_wp2
       go_ret
       exact ⟨rfl, HB.out⟩
  · have HYES := Aside0.mk (way_yes HR.out HF.out hno)
    clear hno
    go_wp2_with fail
    refine (align_Walks.calls Aa ca (madeF l0) Ab cb (madeF l1) n ((cntL L n : Nat) : Int) 0 _ HCa.out hca HCb.out hcb HF.out.walks).mono ?_
    rintro e w9 ⟨rfl, hb⟩
    have hbb := hb; clear hb
    have HB' := Aside0.mk (below_then HB.out HB.out.size hbb); clear HB; have HB := HB'; clear HB'
    have HCa' := Aside0.mk (Kd.C_below HCa.out hbb); clear HCa; have HCa := HCa'; clear HCa'
    have HCb' := Aside0.mk (Kd.C_below HCb.out hbb); clear HCb; have HCb := HCb'; clear HCb'
    have HCl' := Aside0.mk (Kd.C_below HCl.out hbb); clear HCl; have HCl := HCl'; clear HCl'
    clear hbb
    go_wp2
    go_loopw [21, 93] (fun s21 s93 wr => ∃ j : Nat, s93 = .int .i64 j ∧ s21 = .int .i64 (cntL (L.take j) n : Nat) ∧ Aside0 (j ≤ L.length) ∧ Aside0 (Below w9.heap.size w9 wr)) (fun _ s93 _ => L.length - (intOf s93).toNat)
    case atStart => exact ⟨0, rfl, by rw [List.take_zero]; rfl, ⟨Nat.zero_le _⟩, ⟨Below.refl _ _⟩⟩
    case round =>
     obtain ⟨j, rfl, rfl, HJ, HB9⟩ := hrel
     by_cases hlt : j < L.length
     · have hd : decide ((j : Int) < (L.length : Int)) = true := decide_eq_true (by omega)
       have HJL := Aside0.mk hlt
       have HJW := Aside0.mk (show wrap64 ((j : Int) + 1) = ((j + 1 : Nat) : Int) by have := HF.out.len; rw [wrap_small _ (by omega) (by omega)]; rfl)
       have HCW := Aside0.mk (show wrap64 (((cntL (L.take j) n : Nat) : Int) + 1) = ((cntL (L.take j) n + 1 : Nat) : Int) by have := HF.out.len; have := cntL_le L n j; rw [wrap_small _ (by omega) (by omega)]; rfl)
       have p1 : 0 ≤ (j : Int) := by omega
       have q1 : (j : Int) < (L.length : Int) := by omega
       obtain ⟨ad, had, x0⟩ := Kd.at_int (Kd.C_below HCl.out HB9.out) (j : Int) p1 q1
       cases had
       rw [Int.toNat_natCast] at x0
       have HS := Aside0.mk (cntL_snoc L n hlt)
       clear p1 q1
       by_cases hx : rd L (j : Int) ≤ n
       · have hd2 : decide (rd L (j : Int) ≤ n) = true := decide_eq_true hx
         have HX := Aside0.mk hx
         clear hx
         go_wp2
         refine ⟨⟨j + 1, congrArg _ HJW.out, ?_, ⟨HJL.out⟩, HB9⟩, ?_⟩
         · rw [HS.out, if_pos HX.out]; exact congrArg _ HCW.out
         · rw [HJW.out]; have := HJL.out; show L.length - (((j + 1 : Nat) : Int)).toNat < L.length - ((j : Int)).toNat; omega
       · have hd2 : decide (rd L (j : Int) ≤ n) = false := decide_eq_false hx
         have HX := Aside0.mk hx
         clear hx
         go_wp2
         refine ⟨⟨j + 1, congrArg _ HJW.out, ?_, ⟨HJL.out⟩, HB9⟩, ?_⟩
         · rw [HS.out, if_neg HX.out]
         · rw [HJW.out]; have := HJL.out; show L.length - (((j + 1 : Nat) : Int)).toNat < L.length - ((j : Int)).toNat; omega
     · obtain rfl : j = L.length := by have := HJ.out; omega
       have hd : decide ((L.length : Int) < (L.length : Int)) = false := decide_eq_false (by omega)
       clear hlt
       rename World => wZ
       rw [List.take_length]
       have HB' := Aside0.mk (below_then HB.out HB.out.size HB9.out); clear HB; have HB := HB'; clear HB'
       have HCa' := Aside0.mk (Kd.C_below HCa.out HB9.out); clear HCa; have HCa := HCa'; clear HCa'
       have HCb' := Aside0.mk (Kd.C_below HCb.out HB9.out); clear HCb; have HCb := HCb'; clear HCb'
       have HCl' := Aside0.mk (Kd.C_below HCl.out HB9.out); clear HCl; have HCl := HCl'; clear HCl'
       clear HB9
       have z0 : decide (G ≤ n) = true := decide_eq_true HYES.out.1
       have z2 : decide (((cntL L n : Nat) : Int) > 0) = true := decide_eq_true (by have := HYES.out.2; omega)
       have z3 : decide (0 < ((cntL L n : Nat) : Int)) = true := decide_eq_true (by have := HYES.out.2; omega)
       have z4 : decide (0 < cntL L n) = true := decide_eq_true HYES.out.2
       generalize cntL L n = ct at z2 z3 z4 ⊢
       go_wp2_with fail
       refine (works_calls _).mono ?_
       rintro e w10 ⟨rfl, hb⟩
       have hbb := hb; clear hb
       have HB' := Aside0.mk (below_then HB.out HB.out.size hbb); clear HB; have HB := HB'; clear HB'
       have HCa' := Aside0.mk (Kd.C_below HCa.out hbb); clear HCa; have HCa := HCa'; clear HCa'
       have HCb' := Aside0.mk (Kd.C_below HCb.out hbb); clear HCb; have HCb := HCb'; clear HCb'
       have HCl' := Aside0.mk (Kd.C_below HCl.out hbb); clear HCl; have HCl := HCl'; clear HCl'
       clear hbb
       go_wp2
       go_ret
       exact ⟨rfl, HB.out⟩
 | false =>
  obtain rfl : n = t := by rw [hn]; rfl
  clear hn
  go_enter Try.func11, Try.ntmps11
  go_wp2_with fail
  refine (made_calls A0 c0 l0 _ H0.out HA0.out.1 HA0.out.2).mono ?_
  rintro e w1 ⟨v, rfl, hR, hb⟩
  have hbb := hb; clear hb
  have HB' := Aside0.mk (below_then HB.out HB.out.size hbb); clear HB; have HB := HB'; clear HB'
  have H0' := Aside0.mk (Kd.C_below H0.out hbb); clear H0; have H0 := H0'; clear H0'
  have H1' := Aside0.mk (Kd.C_below H1.out hbb); clear H1; have H1 := H1'; clear H1'
  clear hbb
  obtain ⟨Aa, ca, rfl, hca, hCa⟩ := Kd.R_reads hR
  clear hR
  have HCa := Aside0.mk hCa; clear hCa
  go_wp2_with fail
  refine (made_calls A1 c1 l1 _ H1.out HA1.out.1 HA1.out.2).mono ?_
  rintro e w2 ⟨v, rfl, hR, hb⟩
  have hbb := hb; clear hb
  have HB' := Aside0.mk (below_then HB.out HB.out.size hbb); clear HB; have HB := HB'; clear HB'
  have H0' := Aside0.mk (Kd.C_below H0.out hbb); clear H0; have H0 := H0'; clear H0'
  have H1' := Aside0.mk (Kd.C_below H1.out hbb); clear H1; have H1 := H1'; clear H1'
  have HCa' := Aside0.mk (Kd.C_below HCa.out hbb); clear HCa; have HCa := HCa'; clear HCa'
  clear hbb
  obtain ⟨Ab, cb, rfl, hcb, hCb⟩ := Kd.R_reads hR
  clear hR
  have HCb := Aside0.mk hCb; clear hCb
  go_wp2_with fail
  refine (pianolalaw07_heights.calls k Aa ca (madeF l0) Ab cb (madeF l1) 0 0 0 L _ HCa.out hca HCb.out hcb HF.out.heights).mono ?_
  rintro e w3 ⟨v, rfl, hR, hb⟩
  have hbb := hb; clear hb
  have HB' := Aside0.mk (below_then HB.out HB.out.size hbb); clear HB; have HB := HB'; clear HB'
  have HCa' := Aside0.mk (Kd.C_below HCa.out hbb); clear HCa; have HCa := HCa'; clear HCa'
  have HCb' := Aside0.mk (Kd.C_below HCb.out hbb); clear HCb; have HCb := HCb'; clear HCb'
  clear hbb
  obtain ⟨Al, cl, rfl, hcl, hCl⟩ := Kd.R_reads hR
  clear hR
  have HCl := Aside0.mk hCl; clear hCl
  go_wp2_with fail
  refine (align_Gap.calls Aa ca (madeF l0) Ab cb (madeF l1) G 0 _ HCa.out hca HCb.out hcb HF.out.gap).mono ?_
  rintro e w4 ⟨rfl, hb⟩
  have hbb := hb; clear hb
  have HB' := Aside0.mk (below_then HB.out HB.out.size hbb); clear HB; have HB := HB'; clear HB'
  have HCa' := Aside0.mk (Kd.C_below HCa.out hbb); clear HCa; have HCa := HCa'; clear HCa'
  have HCb' := Aside0.mk (Kd.C_below HCb.out hbb); clear HCb; have HCb := HCb'; clear HCb'
  have HCl' := Aside0.mk (Kd.C_below HCl.out hbb); clear HCl; have HCl := HCl'; clear HCl'
  clear hbb
  go_wp2_with fail
  refine (align_Walk.calls Aa ca (madeF l0) Ab cb (madeF l1) W 0 _ HCa.out hca HCb.out hcb HF.out.walk).mono ?_
  rintro e w5 ⟨v, rfl, hR, hb⟩
  have hbb := hb; clear hb
  have HB' := Aside0.mk (below_then HB.out HB.out.size hbb); clear HB; have HB := HB'; clear HB'
  have HCa' := Aside0.mk (Kd.C_below HCa.out hbb); clear HCa; have HCa := HCa'; clear HCa'
  have HCb' := Aside0.mk (Kd.C_below HCb.out hbb); clear HCb; have HCb := HCb'; clear HCb'
  have HCl' := Aside0.mk (Kd.C_below HCl.out hbb); clear HCl; have HCl := HCl'; clear HCl'
  clear hbb
  obtain ⟨Aw, cw, rfl, hcw, hCw⟩ := Kd.R_reads hR
  clear hR
  have HCw := Aside0.mk hCw; clear hCw
  go_wp2_with fail
  refine (align_Height.calls Aa ca (madeF l0) Ab cb (madeF l1) Aw cw W G 0 _ HCa.out hca HCb.out hcb HCw.out hcw HF.out.wlen HF.out.height).mono ?_
  rintro e w6 ⟨rfl, hb⟩
  have hbb := hb; clear hb
  have HB' := Aside0.mk (below_then HB.out HB.out.size hbb); clear HB; have HB := HB'; clear HB'
  have HCa' := Aside0.mk (Kd.C_below HCa.out hbb); clear HCa; have HCa := HCa'; clear HCa'
  have HCb' := Aside0.mk (Kd.C_below HCb.out hbb); clear HCb; have HCb := HCb'; clear HCb'
  have HCl' := Aside0.mk (Kd.C_below HCl.out hbb); clear HCl; have HCl := HCl'; clear HCl'
  have HCw' := Aside0.mk (Kd.C_below HCw.out hbb); clear HCw; have HCw := HCw'; clear HCw'
  clear hbb
  go_wp2_with fail
  refine (pianolalaw07_least.calls k' Al cl L G _ HCl.out hcl HF.out.least).mono ?_
  rintro e w7 ⟨rfl, hb⟩
  have hbb := hb; clear hb
  have HB' := Aside0.mk (below_then HB.out HB.out.size hbb); clear HB; have HB := HB'; clear HB'
  have HCa' := Aside0.mk (Kd.C_below HCa.out hbb); clear HCa; have HCa := HCa'; clear HCa'
  have HCb' := Aside0.mk (Kd.C_below HCb.out hbb); clear HCb; have HCb := HCb'; clear HCb'
  have HCl' := Aside0.mk (Kd.C_below HCl.out hbb); clear HCl; have HCl := HCl'; clear HCl'
  have HCw' := Aside0.mk (Kd.C_below HCw.out hbb); clear HCw; have HCw := HCw'; clear HCw'
  clear hbb
  clear HCw hcw
  go_wp2_with fail
  refine (barrier_ok Aa ca (madeF l0) Ab cb (madeF l1) n _ HCa.out hca HCb.out hcb HE.out).mono ?_
  rintro e w8 ⟨hb, hway⟩
  clear h2
  have hbb := hb; clear hb
  have HB' := Aside0.mk (below_then HB.out HB.out.size hbb); clear HB; have HB := HB'; clear HB'
  have HCa' := Aside0.mk (Kd.C_below HCa.out hbb); clear HCa; have HCa := HCa'; clear HCa'
  have HCb' := Aside0.mk (Kd.C_below HCb.out hbb); clear HCb; have HCb := HCb'; clear HCb'
  have HCl' := Aside0.mk (Kd.C_below HCl.out hbb); clear HCl; have HCl := HCl'; clear HCl'
  clear hbb
  rcases hway with ⟨v, l, rfl, hR, hbar, hll⟩ | ⟨rfl, hno⟩
  · have HNO := Aside0.mk (eit_no HF.out hbar)
    have HBR := Aside0.mk hbar
    have HLL := Aside0.mk hll
    clear hbar hll
    obtain ⟨Ac, cc, rfl, hcc, hCc⟩ := Kd.R_reads hR
    clear hR
    have HCc := Aside0.mk hCc; clear hCc
    go_wp2_with fail
    refine (align_Walks.calls Aa ca (madeF l0) Ab cb (madeF l1) n ((cntL L n : Nat) : Int) 0 _ HCa.out hca HCb.out hcb HF.out.walks).mono ?_
    rintro e w9 ⟨rfl, hb⟩
    have hbb := hb; clear hb
    have HB' := Aside0.mk (below_then HB.out HB.out.size hbb); clear HB; have HB := HB'; clear HB'
    have HCa' := Aside0.mk (Kd.C_below HCa.out hbb); clear HCa; have HCa := HCa'; clear HCa'
    have HCb' := Aside0.mk (Kd.C_below HCb.out hbb); clear HCb; have HCb := HCb'; clear HCb'
    have HCl' := Aside0.mk (Kd.C_below HCl.out hbb); clear HCl; have HCl := HCl'; clear HCl'
    have HCc' := Aside0.mk (Kd.C_below HCc.out hbb); clear HCc; have HCc := HCc'; clear HCc'
    clear hbb
    go_wp2
    go_loopw [21, 93] (fun s21 s93 wr => ∃ j : Nat, s93 = .int .i64 j ∧ s21 = .int .i64 (cntL (L.take j) n : Nat) ∧ Aside0 (j ≤ L.length) ∧ Aside0 (Below w9.heap.size w9 wr)) (fun _ s93 _ => L.length - (intOf s93).toNat)
    case atStart => exact ⟨0, rfl, by rw [List.take_zero]; rfl, ⟨Nat.zero_le _⟩, ⟨Below.refl _ _⟩⟩
    case round =>
     obtain ⟨j, rfl, rfl, HJ, HB9⟩ := hrel
     by_cases hlt : j < L.length
     · have hd : decide ((j : Int) < (L.length : Int)) = true := decide_eq_true (by omega)
       have HJL := Aside0.mk hlt
       have HJW := Aside0.mk (show wrap64 ((j : Int) + 1) = ((j + 1 : Nat) : Int) by have := HF.out.len; rw [wrap_small _ (by omega) (by omega)]; rfl)
       have HCW := Aside0.mk (show wrap64 (((cntL (L.take j) n : Nat) : Int) + 1) = ((cntL (L.take j) n + 1 : Nat) : Int) by have := HF.out.len; have := cntL_le L n j; rw [wrap_small _ (by omega) (by omega)]; rfl)
       have p1 : 0 ≤ (j : Int) := by omega
       have q1 : (j : Int) < (L.length : Int) := by omega
       obtain ⟨ad, had, x0⟩ := Kd.at_int (Kd.C_below HCl.out HB9.out) (j : Int) p1 q1
       cases had
       rw [Int.toNat_natCast] at x0
       have HS := Aside0.mk (cntL_snoc L n hlt)
       clear p1 q1
       by_cases hx : rd L (j : Int) ≤ n
       · have hd2 : decide (rd L (j : Int) ≤ n) = true := decide_eq_true hx
         have HX := Aside0.mk hx
         clear hx
         go_wp2
         refine ⟨⟨j + 1, congrArg _ HJW.out, ?_, ⟨HJL.out⟩, HB9⟩, ?_⟩
         · rw [HS.out, if_pos HX.out]; exact congrArg _ HCW.out
         · rw [HJW.out]; have := HJL.out; show L.length - (((j + 1 : Nat) : Int)).toNat < L.length - ((j : Int)).toNat; omega
       · have hd2 : decide (rd L (j : Int) ≤ n) = false := decide_eq_false hx
         have HX := Aside0.mk hx
         clear hx
         go_wp2
         refine ⟨⟨j + 1, congrArg _ HJW.out, ?_, ⟨HJL.out⟩, HB9⟩, ?_⟩
         · rw [HS.out, if_neg HX.out]
         · rw [HJW.out]; have := HJL.out; show L.length - (((j + 1 : Nat) : Int)).toNat < L.length - ((j : Int)).toNat; omega
     · obtain rfl : j = L.length := by have := HJ.out; omega
       have hd : decide ((L.length : Int) < (L.length : Int)) = false := decide_eq_false (by omega)
       clear hlt
       rename World => wZ
       rw [List.take_length]
       have HB' := Aside0.mk (below_then HB.out HB.out.size HB9.out); clear HB; have HB := HB'; clear HB'
       have HCa' := Aside0.mk (Kd.C_below HCa.out HB9.out); clear HCa; have HCa := HCa'; clear HCa'
       have HCb' := Aside0.mk (Kd.C_below HCb.out HB9.out); clear HCb; have HCb := HCb'; clear HCb'
       have HCl' := Aside0.mk (Kd.C_below HCl.out HB9.out); clear HCl; have HCl := HCl'; clear HCl'
       have HCc' := Aside0.mk (Kd.C_below HCc.out HB9.out); clear HCc; have HCc := HCc'; clear HCc'
       clear HB9
       have z0 : decide (G ≤ n) = false := decide_eq_false (by have := HNO.out.1; omega)
       have z1 : cntL L n = 0 := HNO.out.2
       simp only [z1]
       have HV := Aside0.mk (bar_ver HR.out HBR.out)
       go_wp2_with fail
       refine (align_Verify.calls Aa ca (madeF l0) Ab cb (madeF l1) n Ac cc l 0 _ HCa.out hca HCb.out hcb HCc.out hcc (by have := HLL.out; omega) HV.out).mono ?_
       rintro e w10 ⟨rfl, hb⟩
       have hbb := hb; clear hb
       have HB' := Aside0.mk (below_then HB.out HB.out.size hbb); clear HB; have HB := HB'; clear HB'
       have HCa' := Aside0.mk (Kd.C_below HCa.out hbb); clear HCa; have HCa := HCa'; clear HCa'
       have HCb' := Aside0.mk (Kd.C_below HCb.out hbb); clear HCb; have HCb := HCb'; clear HCb'
       have HCl' := Aside0.mk (Kd.C_below HCl.out hbb); clear HCl; have HCl := HCl'; clear HCl'
       have HCc' := Aside0.mk (Kd.C_below HCc.out hbb); clear HCc; have HCc := HCc'; clear HCc'
       clear hbb
       go_wp2_with fail
       refine (crossed_ok Aa ca (madeF l0) Ab cb (madeF l1) _ _ n Ac cc l _ rfl rfl HCa.out hca HCb.out hcb HCc.out hcc (by have := HLL.out; omega) HR.out HBR.out).mono ?_
       rintro e w11 ⟨rfl, hb⟩
       have hbb := hb; clear hb
       have HB' := Aside0.mk (below_then HB.out HB.out.size hbb); clear HB; have HB := HB'; clear HB'
       have HCa' := Aside0.mk (Kd.C_below HCa.out hbb); clear HCa; have HCa := HCa'; clear HCa'
       have HCb' := Aside0.mk (Kd.C_below HCb.out hbb); clear HCb; have HCb := HCb'; clear HCb'
       have HCl' := Aside0.mk (Kd.C_below HCl.out hbb); clear HCl; have HCl := HCl'; clear HCl'
       have HCc' := Aside0.mk (Kd.C_below HCc.out hbb); clear HCc; have HCc := HCc'; clear HCc'
       clear hbb
       go_wp2_with fail
       refine (works_calls _).mono ?_
       rintro e w12 ⟨rfl, hb⟩
       have hbb := hb; clear hb
       have HB' := Aside0.mk (below_then HB.out HB.out.size hbb); clear HB; have HB := HB'; clear HB'
       have HCa' := Aside0.mk (Kd.C_below HCa.out hbb); clear HCa; have HCa := HCa'; clear HCa'
       have HCb' := Aside0.mk (Kd.C_below HCb.out hbb); clear HCb; have HCb := HCb'; clear HCb'
       have HCl' := Aside0.mk (Kd.C_below HCl.out hbb); clear HCl; have HCl := HCl'; clear HCl'
       have HCc' := Aside0.mk (Kd.C_below HCc.out hbb); clear HCc; have HCc := HCc'; clear HCc'
       clear hbb
       go_wp2
       go_ret
       exact ⟨rfl, HB.out⟩
  · have HYES := Aside0.mk (way_yes HR.out HF.out hno)
    clear hno
    go_wp2_with fail
    refine (align_Walks.calls Aa ca (madeF l0) Ab cb (madeF l1) n ((cntL L n : Nat) : Int) 0 _ HCa.out hca HCb.out hcb HF.out.walks).mono ?_
    rintro e w9 ⟨rfl, hb⟩
    have hbb := hb; clear hb
    have HB' := Aside0.mk (below_then HB.out HB.out.size hbb); clear HB; have HB := HB'; clear HB'
    have HCa' := Aside0.mk (Kd.C_below HCa.out hbb); clear HCa; have HCa := HCa'; clear HCa'
    have HCb' := Aside0.mk (Kd.C_below HCb.out hbb); clear HCb; have HCb := HCb'; clear HCb'
    have HCl' := Aside0.mk (Kd.C_below HCl.out hbb); clear HCl; have HCl := HCl'; clear HCl'
    clear hbb
    go_wp2
    go_loopw [21, 93] (fun s21 s93 wr => ∃ j : Nat, s93 = .int .i64 j ∧ s21 = .int .i64 (cntL (L.take j) n : Nat) ∧ Aside0 (j ≤ L.length) ∧ Aside0 (Below w9.heap.size w9 wr)) (fun _ s93 _ => L.length - (intOf s93).toNat)
    case atStart => exact ⟨0, rfl, by rw [List.take_zero]; rfl, ⟨Nat.zero_le _⟩, ⟨Below.refl _ _⟩⟩
    case round =>
     obtain ⟨j, rfl, rfl, HJ, HB9⟩ := hrel
     by_cases hlt : j < L.length
     · have hd : decide ((j : Int) < (L.length : Int)) = true := decide_eq_true (by omega)
       have HJL := Aside0.mk hlt
       have HJW := Aside0.mk (show wrap64 ((j : Int) + 1) = ((j + 1 : Nat) : Int) by have := HF.out.len; rw [wrap_small _ (by omega) (by omega)]; rfl)
       have HCW := Aside0.mk (show wrap64 (((cntL (L.take j) n : Nat) : Int) + 1) = ((cntL (L.take j) n + 1 : Nat) : Int) by have := HF.out.len; have := cntL_le L n j; rw [wrap_small _ (by omega) (by omega)]; rfl)
       have p1 : 0 ≤ (j : Int) := by omega
       have q1 : (j : Int) < (L.length : Int) := by omega
       obtain ⟨ad, had, x0⟩ := Kd.at_int (Kd.C_below HCl.out HB9.out) (j : Int) p1 q1
       cases had
       rw [Int.toNat_natCast] at x0
       have HS := Aside0.mk (cntL_snoc L n hlt)
       clear p1 q1
       by_cases hx : rd L (j : Int) ≤ n
       · have hd2 : decide (rd L (j : Int) ≤ n) = true := decide_eq_true hx
         have HX := Aside0.mk hx
         clear hx
         go_wp2
         refine ⟨⟨j + 1, congrArg _ HJW.out, ?_, ⟨HJL.out⟩, HB9⟩, ?_⟩
         · rw [HS.out, if_pos HX.out]; exact congrArg _ HCW.out
         · rw [HJW.out]; have := HJL.out; show L.length - (((j + 1 : Nat) : Int)).toNat < L.length - ((j : Int)).toNat; omega
       · have hd2 : decide (rd L (j : Int) ≤ n) = false := decide_eq_false hx
         have HX := Aside0.mk hx
         clear hx
         go_wp2
         refine ⟨⟨j + 1, congrArg _ HJW.out, ?_, ⟨HJL.out⟩, HB9⟩, ?_⟩
         · rw [HS.out, if_neg HX.out]
         · rw [HJW.out]; have := HJL.out; show L.length - (((j + 1 : Nat) : Int)).toNat < L.length - ((j : Int)).toNat; omega
     · obtain rfl : j = L.length := by have := HJ.out; omega
       have hd : decide ((L.length : Int) < (L.length : Int)) = false := decide_eq_false (by omega)
       clear hlt
       rename World => wZ
       rw [List.take_length]
       have HB' := Aside0.mk (below_then HB.out HB.out.size HB9.out); clear HB; have HB := HB'; clear HB'
       have HCa' := Aside0.mk (Kd.C_below HCa.out HB9.out); clear HCa; have HCa := HCa'; clear HCa'
       have HCb' := Aside0.mk (Kd.C_below HCb.out HB9.out); clear HCb; have HCb := HCb'; clear HCb'
       have HCl' := Aside0.mk (Kd.C_below HCl.out HB9.out); clear HCl; have HCl := HCl'; clear HCl'
       clear HB9
       have z0 : decide (G ≤ n) = true := decide_eq_true HYES.out.1
       have z2 : decide (((cntL L n : Nat) : Int) > 0) = true := decide_eq_true (by have := HYES.out.2; omega)
       have z3 : decide (0 < ((cntL L n : Nat) : Int)) = true := decide_eq_true (by have := HYES.out.2; omega)
       have z4 : decide (0 < cntL L n) = true := decide_eq_true HYES.out.2
       generalize cntL L n = ct at z2 z3 z4 ⊢
       go_wp2_with fail
       refine (works_calls _).mono ?_
       rintro e w10 ⟨rfl, hb⟩
       have hbb := hb; clear hb
       have HB' := Aside0.mk (below_then HB.out HB.out.size hbb); clear HB; have HB := HB'; clear HB'
       have HCa' := Aside0.mk (Kd.C_below HCa.out hbb); clear HCa; have HCa := HCa'; clear HCa'
       have HCb' := Aside0.mk (Kd.C_below HCb.out hbb); clear HCb; have HCb := HCb'; clear HCb'
       have HCl' := Aside0.mk (Kd.C_below HCl.out hbb); clear HCl; have HCl := HCl'; clear HCl'
       clear hbb
       go_wp2
       go_ret
       exact ⟨rfl, HB.out⟩

end Go.Proofs.Ytkocigldchiifaa.H
