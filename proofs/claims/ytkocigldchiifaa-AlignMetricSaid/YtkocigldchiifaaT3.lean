/- pianolalaw07.AlignMetric. -/
import Derived.Test.YtkocigldchiifaaT2
import Derived.Test.YtkocigldchiifaaHL
import Derived.Test.YtkocigldchiifaaH7
namespace Go.Proofs.Ytkocigldchiifaa.H
open Go.RowKit Go.Proofs.YtkocigldchiifaaW.PrintWords Go.Proofs.YtkocigldchiifaaW.PrintLast Go.Proofs.YtkocigldchiifaaW.PrintMore
open Go.Shelf Go.Proofs.Ytkocigldchiifaa.QA
set_option linter.unusedVariables false
set_option linter.unusedSimpArgs false

set_option maxRecDepth 100000 in
set_option maxHeartbeats 2000000 in
theorem alignMetric_calls (A0 : Option Addr) (c0 : Nat) (l0 : List S59) (A1 : Option Addr) (c1 : Nat) (l1 : List S59) (A2 : Option Addr) (c2 : Nat) (l2 : List S59) (w : World) (hC0 : Kd.C k111 w A0 l0.length l0) (hc0 : l0.length ≤ c0) (hb0 : ∀ x ∈ l0, Byte3 x) (hC1 : Kd.C k111 w A1 l1.length l1) (hc1 : l1.length ≤ c1) (hb1 : ∀ x ∈ l1, Byte3 x) (hC2 : Kd.C k111 w A2 l2.length l2) (hc2 : l2.length ≤ c2) (hb2 : ∀ x ∈ l2, Byte3 x) :
  Calls Try.prog 5 #[.slice A0 l0.length c0, .slice A1 l1.length c1, .slice A2 l2.length c2] w fun e w' => e = .returned (.bool true) ∧ Below w.heap.size w w' := by
  have H0 := Aside0.mk hC0
  have H1 := Aside0.mk hC1
  have H2 := Aside0.mk hC2
  have HA0 := Aside0.mk (And.intro hc0 hb0)
  have HA1 := Aside0.mk (And.intro hc1 hb1)
  have HA2 := Aside0.mk (And.intro hc2 hb2)
  have HB := Aside0.mk (Below.refl w.heap.size w)
  obtain ⟨x, y, z, hF, hle, hin⟩ : ∃ x y z : Int, (align_Gap.f (madeF l0) (madeF l1) = some (x, 0) ∧ align_Gap.f (madeF l1) (madeF l0) = some (x, 0) ∧ align_Gap.f (madeF l1) (madeF l2) = some (z, 0) ∧ align_Gap.f (madeF l0) (madeF l2) = some (y, 0) ∧ align_Gap.f (madeF l0) (madeF l0) = some (0, 0)) ∧ y ≤ x + z ∧ (0 ≤ x ∧ x ≤ 1000000) ∧ (0 ≤ z ∧ z ≤ 1000000) := by
   have r01 := made_rolls hb0 hb1
   have r12 := made_rolls hb1 hb2
   have r02 := made_rolls hb0 hb2
   have r00 := made_rolls hb0 hb0
   exact ⟨_, _, _, ⟨gap_f r01, by rw [gap_f r01.symm, gap_symm r01], gap_f r12, gap_f r02, by rw [gap_f r00, gap_self r00]⟩, gap_tri r01 r12, gap_in r01, gap_in r12⟩
  have HF := Aside0.mk hF
  have e1 : wrap64 (x + z) = x + z := by unfold wrap64; omega
  have e2 : decide (y ≤ x + z) = true := decide_eq_true hle
  clear hC0 hc0 hb0 hC1 hc1 hb1 hC2 hc2 hb2 hF hin hle
  go_enter Try.func5, Try.ntmps5
  go_wp2_with fail
  refine (made_calls A0 c0 l0 _ H0.out HA0.out.1 HA0.out.2).mono ?_
  rintro e w1 ⟨v, rfl, hR, hb⟩
  have hbb := hb; clear hb
  have HB' := Aside0.mk (below_then HB.out HB.out.size hbb); clear HB; have HB := HB'; clear HB'
  have H0' := Aside0.mk (Kd.C_below H0.out hbb); clear H0; have H0 := H0'; clear H0'
  have H1' := Aside0.mk (Kd.C_below H1.out hbb); clear H1; have H1 := H1'; clear H1'
  have H2' := Aside0.mk (Kd.C_below H2.out hbb); clear H2; have H2 := H2'; clear H2'
  clear hbb
  obtain ⟨Aa, ca, rfl, hca, hCa⟩ := Kd.R_reads hR
  clear hR
  have HCa := Aside0.mk hCa; clear hCa
  go_wp2_with fail
  refine (made_calls A1 c1 l1 _ H1.out HA1.out.1 HA1.out.2).mono ?_
  rintro e w2 ⟨v, rfl, hR, hb⟩
  have hbb := hb; clear hb
  have HB' := Aside0.mk (below_then HB.out HB.out.size hbb); clear HB; have HB := HB'; clear HB'
  have H0' := Aside0.mk (Kd.C_below H0.out hbb); clear H0; have H0 := H0'; clear H0'
  have H1' := Aside0.mk (Kd.C_below H1.out hbb); clear H1; have H1 := H1'; clear H1'
  have H2' := Aside0.mk (Kd.C_below H2.out hbb); clear H2; have H2 := H2'; clear H2'
  have HCa' := Aside0.mk (Kd.C_below HCa.out hbb); clear HCa; have HCa := HCa'; clear HCa'
  clear hbb
  obtain ⟨Ab, cb, rfl, hcb, hCb⟩ := Kd.R_reads hR
  clear hR
  have HCb := Aside0.mk hCb; clear hCb
  go_wp2_with fail
  refine (made_calls A2 c2 l2 _ H2.out HA2.out.1 HA2.out.2).mono ?_
  rintro e w3 ⟨v, rfl, hR, hb⟩
  have hbb := hb; clear hb
  have HB' := Aside0.mk (below_then HB.out HB.out.size hbb); clear HB; have HB := HB'; clear HB'
  have H0' := Aside0.mk (Kd.C_below H0.out hbb); clear H0; have H0 := H0'; clear H0'
  have H1' := Aside0.mk (Kd.C_below H1.out hbb); clear H1; have H1 := H1'; clear H1'
  have H2' := Aside0.mk (Kd.C_below H2.out hbb); clear H2; have H2 := H2'; clear H2'
  have HCa' := Aside0.mk (Kd.C_below HCa.out hbb); clear HCa; have HCa := HCa'; clear HCa'
  have HCb' := Aside0.mk (Kd.C_below HCb.out hbb); clear HCb; have HCb := HCb'; clear HCb'
  clear hbb
  obtain ⟨Ac, cc, rfl, hcc, hCc⟩ := Kd.R_reads hR
  clear hR
  have HCc := Aside0.mk hCc; clear hCc
  go_wp2_with fail
  refine (align_Gap.calls Aa ca (madeF l0) Ab cb (madeF l1) x 0 _ HCa.out hca HCb.out hcb HF.out.1).mono ?_
  rintro e w4 ⟨rfl, hb⟩
  have hbb := hb; clear hb
  have HB' := Aside0.mk (below_then HB.out HB.out.size hbb); clear HB; have HB := HB'; clear HB'
  have H0' := Aside0.mk (Kd.C_below H0.out hbb); clear H0; have H0 := H0'; clear H0'
  have H1' := Aside0.mk (Kd.C_below H1.out hbb); clear H1; have H1 := H1'; clear H1'
  have H2' := Aside0.mk (Kd.C_below H2.out hbb); clear H2; have H2 := H2'; clear H2'
  have HCa' := Aside0.mk (Kd.C_below HCa.out hbb); clear HCa; have HCa := HCa'; clear HCa'
  have HCb' := Aside0.mk (Kd.C_below HCb.out hbb); clear HCb; have HCb := HCb'; clear HCb'
  have HCc' := Aside0.mk (Kd.C_below HCc.out hbb); clear HCc; have HCc := HCc'; clear HCc'
  clear hbb
  go_wp2_with fail
  refine (align_Gap.calls Ab cb (madeF l1) Aa ca (madeF l0) x 0 _ HCb.out hcb HCa.out hca HF.out.2.1).mono ?_
  rintro e w5 ⟨rfl, hb⟩
  have hbb := hb; clear hb
  have HB' := Aside0.mk (below_then HB.out HB.out.size hbb); clear HB; have HB := HB'; clear HB'
  have H0' := Aside0.mk (Kd.C_below H0.out hbb); clear H0; have H0 := H0'; clear H0'
  have H1' := Aside0.mk (Kd.C_below H1.out hbb); clear H1; have H1 := H1'; clear H1'
  have H2' := Aside0.mk (Kd.C_below H2.out hbb); clear H2; have H2 := H2'; clear H2'
  have HCa' := Aside0.mk (Kd.C_below HCa.out hbb); clear HCa; have HCa := HCa'; clear HCa'
  have HCb' := Aside0.mk (Kd.C_below HCb.out hbb); clear HCb; have HCb := HCb'; clear HCb'
  have HCc' := Aside0.mk (Kd.C_below HCc.out hbb); clear HCc; have HCc := HCc'; clear HCc'
  clear hbb
  go_wp2_with fail
  refine (align_Gap.calls Ab cb (madeF l1) Ac cc (madeF l2) z 0 _ HCb.out hcb HCc.out hcc HF.out.2.2.1).mono ?_
  rintro e w6 ⟨rfl, hb⟩
  have hbb := hb; clear hb
  have HB' := Aside0.mk (below_then HB.out HB.out.size hbb); clear HB; have HB := HB'; clear HB'
  have H0' := Aside0.mk (Kd.C_below H0.out hbb); clear H0; have H0 := H0'; clear H0'
  have H1' := Aside0.mk (Kd.C_below H1.out hbb); clear H1; have H1 := H1'; clear H1'
  have H2' := Aside0.mk (Kd.C_below H2.out hbb); clear H2; have H2 := H2'; clear H2'
  have HCa' := Aside0.mk (Kd.C_below HCa.out hbb); clear HCa; have HCa := HCa'; clear HCa'
  have HCb' := Aside0.mk (Kd.C_below HCb.out hbb); clear HCb; have HCb := HCb'; clear HCb'
  have HCc' := Aside0.mk (Kd.C_below HCc.out hbb); clear HCc; have HCc := HCc'; clear HCc'
  clear hbb
  go_wp2_with fail
  refine (align_Gap.calls Aa ca (madeF l0) Ac cc (madeF l2) y 0 _ HCa.out hca HCc.out hcc HF.out.2.2.2.1).mono ?_
  rintro e w7 ⟨rfl, hb⟩
  have hbb := hb; clear hb
  have HB' := Aside0.mk (below_then HB.out HB.out.size hbb); clear HB; have HB := HB'; clear HB'
  have H0' := Aside0.mk (Kd.C_below H0.out hbb); clear H0; have H0 := H0'; clear H0'
  have H1' := Aside0.mk (Kd.C_below H1.out hbb); clear H1; have H1 := H1'; clear H1'
  have H2' := Aside0.mk (Kd.C_below H2.out hbb); clear H2; have H2 := H2'; clear H2'
  have HCa' := Aside0.mk (Kd.C_below HCa.out hbb); clear HCa; have HCa := HCa'; clear HCa'
  have HCb' := Aside0.mk (Kd.C_below HCb.out hbb); clear HCb; have HCb := HCb'; clear HCb'
  have HCc' := Aside0.mk (Kd.C_below HCc.out hbb); clear HCc; have HCc := HCc'; clear HCc'
  clear hbb
  go_wp2_with fail
  refine (align_Gap.calls Aa ca (madeF l0) Aa ca (madeF l0) 0 0 _ HCa.out hca HCa.out hca HF.out.2.2.2.2).mono ?_
  rintro e w8 ⟨rfl, hb⟩
  have hbb := hb; clear hb
  have HB' := Aside0.mk (below_then HB.out HB.out.size hbb); clear HB; have HB := HB'; clear HB'
  have H0' := Aside0.mk (Kd.C_below H0.out hbb); clear H0; have H0 := H0'; clear H0'
  have H1' := Aside0.mk (Kd.C_below H1.out hbb); clear H1; have H1 := H1'; clear H1'
  have H2' := Aside0.mk (Kd.C_below H2.out hbb); clear H2; have H2 := H2'; clear H2'
  have HCa' := Aside0.mk (Kd.C_below HCa.out hbb); clear HCa; have HCa := HCa'; clear HCa'
  have HCb' := Aside0.mk (Kd.C_below HCb.out hbb); clear HCb; have HCb := HCb'; clear HCb'
  have HCc' := Aside0.mk (Kd.C_below HCc.out hbb); clear HCc; have HCc := HCc'; clear HCc'
  clear hbb
  go_wp2_with fail
  refine (works_calls _).mono ?_
  rintro e w9 ⟨rfl, hb⟩
  have hbb := hb; clear hb
  have HB' := Aside0.mk (below_then HB.out HB.out.size hbb); clear HB; have HB := HB'; clear HB'
  have H0' := Aside0.mk (Kd.C_below H0.out hbb); clear H0; have H0 := H0'; clear H0'
  have H1' := Aside0.mk (Kd.C_below H1.out hbb); clear H1; have H1 := H1'; clear H1'
  have H2' := Aside0.mk (Kd.C_below H2.out hbb); clear H2; have H2 := H2'; clear H2'
  have HCa' := Aside0.mk (Kd.C_below HCa.out hbb); clear HCa; have HCa := HCa'; clear HCa'
  have HCb' := Aside0.mk (Kd.C_below HCb.out hbb); clear HCb; have HCb := HCb'; clear HCb'
  have HCc' := Aside0.mk (Kd.C_below HCc.out hbb); clear HCc; have HCc := HCc'; clear HCc'
  clear hbb
  go_wp2
  go_ret
  exact ⟨rfl, HB.out⟩

end Go.Proofs.Ytkocigldchiifaa.H
