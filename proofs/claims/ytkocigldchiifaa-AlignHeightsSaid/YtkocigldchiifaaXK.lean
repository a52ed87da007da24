/- Texts U2 of this chapter, one behind the other. -/
import Derived.Test.YtkocigldchiifaaXF
import Derived.Test.YtkocigldchiifaaXJ

/- pianolalaw07.AlignHeights. -/
namespace Go.Proofs.Ytkocigldchiifaa.H
open Go.RowKit Go.Proofs.YtkocigldchiifaaW.PrintWords Go.Proofs.YtkocigldchiifaaW.PrintLast Go.Proofs.YtkocigldchiifaaW.PrintMore
open Go.Shelf Go.Proofs.Ytkocigldchiifaa.QA
set_option linter.unusedVariables false
set_option linter.unusedSimpArgs false

theorem large_fH (l : List S59) : pianolalaw07_large.f l = some (decide (60 < l.length)) := by
 unfold pianolalaw07_large.f
 rw [Option.some.injEq, decide_eq_decide]
 omega
set_option maxRecDepth 100000 in
set_option maxHeartbeats 4000000 in
theorem alignHeights_calls (A0 : Option Addr) (c0 : Nat) (l0 : List S59) (A1 : Option Addr) (c1 : Nat) (l1 : List S59) (A2 : Option Addr) (c2 : Nat) (l2 : List S25) (hh : Int) (w : World) (hC0 : Kd.C k59 w A0 l0.length l0) (hc0 : l0.length ≤ c0) (hC1 : Kd.C k59 w A1 l1.length l1) (hc1 : l1.length ≤ c1) (hC2 : Kd.C k25 w A2 l2.length l2) (hc2 : l2.length ≤ c2) :
  Calls Try.prog 10 #[.slice A0 l0.length c0, .slice A1 l1.length c1, .slice A2 l2.length c2, .int .i64 hh] w fun e w' => e = .returned (.bool true) ∧ Below w.heap.size w w' := by
 have hu25 := Try.underlying25
 have H0 := Aside0.mk hC0
 have H1 := Aside0.mk hC1
 have H2 := Aside0.mk hC2
 have HA := Aside0.mk (And.intro hc0 hc1)
 have HA2 := Aside0.mk hc2
 have HB := Aside0.mk (Below.refl w.heap.size w)
 clear hC0 hC1 hC2 hc0 hc1 hc2
 by_cases g0 : 60 < l0.length
 · have HL0 := Aside0.mk (show pianolalaw07_large.f l0 = some true by rw [large_fH, decide_eq_true g0])
   clear g0
   go_enter Try.func10, Try.ntmps10
   go_wp2_with fail
   refine (pianolalaw07_large.calls A0 c0 l0 true _ H0.out HA.out.1 HL0.out).mono ?_
   rintro e w1 ⟨rfl, hd⟩
   have hb := hd.below; clear hd
   have hbb := hb; clear hb
   have HB' := Aside0.mk (below_then HB.out HB.out.size hbb); clear HB; have HB := HB'; clear HB'
   have H0' := Aside0.mk (Kd.C_below H0.out hbb); clear H0; have H0 := H0'; clear H0'
   have H1' := Aside0.mk (Kd.C_below H1.out hbb); clear H1; have H1 := H1'; clear H1'
   have H2' := Aside0.mk (Kd.C_below H2.out hbb); clear H2; have H2 := H2'; clear H2'
   clear hbb
   go_wp2_with fail
   refine (works_calls _).mono ?_
   rintro e w2 ⟨rfl, hb⟩
   have hbb := hb; clear hb
   have HB' := Aside0.mk (below_then HB.out HB.out.size hbb); clear HB; have HB := HB'; clear HB'
   have H0' := Aside0.mk (Kd.C_below H0.out hbb); clear H0; have H0 := H0'; clear H0'
   have H1' := Aside0.mk (Kd.C_below H1.out hbb); clear H1; have H1 := H1'; clear H1'
   have H2' := Aside0.mk (Kd.C_below H2.out hbb); clear H2; have H2 := H2'; clear H2'
   clear hbb
   go_wp2
   go_ret
   exact ⟨rfl, HB.out⟩
 have HL0 := Aside0.mk (show pianolalaw07_large.f l0 = some false by rw [large_fH, decide_eq_false g0])
 by_cases g1 : 60 < l1.length
 · have HL1 := Aside0.mk (show pianolalaw07_large.f l1 = some true by rw [large_fH, decide_eq_true g1])
   clear g0 g1
   go_enter Try.func10, Try.ntmps10
   go_wp2_with fail
   refine (pianolalaw07_large.calls A0 c0 l0 false _ H0.out HA.out.1 HL0.out).mono ?_
   rintro e w1 ⟨rfl, hd⟩
   have hb := hd.below; clear hd
   have hbb := hb; clear hb
   have HB' := Aside0.mk (below_then HB.out HB.out.size hbb); clear HB; have HB := HB'; clear HB'
   have H0' := Aside0.mk (Kd.C_below H0.out hbb); clear H0; have H0 := H0'; clear H0'
   have H1' := Aside0.mk (Kd.C_below H1.out hbb); clear H1; have H1 := H1'; clear H1'
   have H2' := Aside0.mk (Kd.C_below H2.out hbb); clear H2; have H2 := H2'; clear H2'
   clear hbb
   go_wp2_with fail
   refine (pianolalaw07_large.calls A1 c1 l1 true _ H1.out HA.out.2 HL1.out).mono ?_
   rintro e w2 ⟨rfl, hd⟩
   have hb := hd.below; clear hd
   have hbb := hb; clear hb
   have HB' := Aside0.mk (below_then HB.out HB.out.size hbb); clear HB; have HB := HB'; clear HB'
   have H0' := Aside0.mk (Kd.C_below H0.out hbb); clear H0; have H0 := H0'; clear H0'
   have H1' := Aside0.mk (Kd.C_below H1.out hbb); clear H1; have H1 := H1'; clear H1'
   have H2' := Aside0.mk (Kd.C_below H2.out hbb); clear H2; have H2 := H2'; clear H2'
   clear hbb
   go_wp2_with fail
   refine (works_calls _).mono ?_
   rintro e w3 ⟨rfl, hb⟩
   have hbb := hb; clear hb
   have HB' := Aside0.mk (below_then HB.out HB.out.size hbb); clear HB; have HB := HB'; clear HB'
   have H0' := Aside0.mk (Kd.C_below H0.out hbb); clear H0; have H0 := H0'; clear H0'
   have H1' := Aside0.mk (Kd.C_below H1.out hbb); clear H1; have H1 := H1'; clear H1'
   have H2' := Aside0.mk (Kd.C_below H2.out hbb); clear H2; have H2 := H2'; clear H2'
   clear hbb
   go_wp2
   go_ret
   exact ⟨rfl, HB.out⟩
 have HL1 := Aside0.mk (show pianolalaw07_large.f l1 = some false by rw [large_fH, decide_eq_false g1])
 by_cases g3 : 100 < l2.length
 · have t5 : decide ((l2.length : Int) > 100) = true := decide_eq_true (by omega)
   clear g0 g1 g3
   go_enter Try.func10, Try.ntmps10
   go_wp2_with fail
   refine (pianolalaw07_large.calls A0 c0 l0 false _ H0.out HA.out.1 HL0.out).mono ?_
   rintro e w1 ⟨rfl, hd⟩
   have hb := hd.below; clear hd
   have hbb := hb; clear hb
   have HB' := Aside0.mk (below_then HB.out HB.out.size hbb); clear HB; have HB := HB'; clear HB'
   have H0' := Aside0.mk (Kd.C_below H0.out hbb); clear H0; have H0 := H0'; clear H0'
   have H1' := Aside0.mk (Kd.C_below H1.out hbb); clear H1; have H1 := H1'; clear H1'
   have H2' := Aside0.mk (Kd.C_below H2.out hbb); clear H2; have H2 := H2'; clear H2'
   clear hbb
   go_wp2_with fail
   refine (pianolalaw07_large.calls A1 c1 l1 false _ H1.out HA.out.2 HL1.out).mono ?_
   rintro e w2 ⟨rfl, hd⟩
   have hb := hd.below; clear hd
   have hbb := hb; clear hb
   have HB' := Aside0.mk (below_then HB.out HB.out.size hbb); clear HB; have HB := HB'; clear HB'
   have H0' := Aside0.mk (Kd.C_below H0.out hbb); clear H0; have H0 := H0'; clear H0'
   have H1' := Aside0.mk (Kd.C_below H1.out hbb); clear H1; have H1 := H1'; clear H1'
   have H2' := Aside0.mk (Kd.C_below H2.out hbb); clear H2; have H2 := H2'; clear H2'
   clear hbb
   go_wp2_with fail
   refine (works_calls _).mono ?_
   rintro e w3 ⟨rfl, hb⟩
   have hbb := hb; clear hb
   have HB' := Aside0.mk (below_then HB.out HB.out.size hbb); clear HB; have HB := HB'; clear HB'
   have H0' := Aside0.mk (Kd.C_below H0.out hbb); clear H0; have H0 := H0'; clear H0'
   have H1' := Aside0.mk (Kd.C_below H1.out hbb); clear H1; have H1 := H1'; clear H1'
   have H2' := Aside0.mk (Kd.C_below H2.out hbb); clear H2; have H2 := H2'; clear H2'
   clear hbb
   go_wp2
   go_ret
   exact ⟨rfl, HB.out⟩
 have t5 : decide ((l2.length : Int) > 100) = false := decide_eq_false (by omega)
 have HLE := Aside0.mk (show l0.length ≤ 60 ∧ l1.length ≤ 60 ∧ l2.length ≤ 100 by omega)
 clear g0 g1 g3
 obtain ⟨⟨m, e1⟩, hV⟩ : ∃ t, align_Height.f l0 l1 l2 = some t := ⟨_, rfl⟩
 obtain ⟨⟨c, e2⟩, hW⟩ : ∃ t, align_Walks.f l0 l1 hh = some t := ⟨_, rfl⟩
 have hV' := refHeight_f l0 l1 l2 400 (by have := HLE.out; omega) (by have := HLE.out; omega)
 rw [hV] at hV'
 obtain ⟨x, hx⟩ : ∃ x, l0.map ev = x := ⟨_, rfl⟩
 obtain ⟨y, hy⟩ : ∃ y, l1.map ev = y := ⟨_, rfl⟩
 obtain ⟨z, hz⟩ : ∃ z, l2.map pr = z := ⟨_, rfl⟩
 rw [hx, hy, hz] at hV'
 have HX := Aside0.mk hx
 have HY := Aside0.mk hy
 have HZ := Aside0.mk hz
 have HF := Aside0.mk (And.intro hV (And.intro hV' hW))
 clear hx hy hz hV hV' hW
 go_enter Try.func10, Try.ntmps10
 go_wp2_with fail
 refine (pianolalaw07_large.calls A0 c0 l0 false _ H0.out HA.out.1 HL0.out).mono ?_
 rintro e w1 ⟨rfl, hd⟩
 have hb := hd.below; clear hd
 have hbb := hb; clear hb
 have HB' := Aside0.mk (below_then HB.out HB.out.size hbb); clear HB; have HB := HB'; clear HB'
 have H0' := Aside0.mk (Kd.C_below H0.out hbb); clear H0; have H0 := H0'; clear H0'
 have H1' := Aside0.mk (Kd.C_below H1.out hbb); clear H1; have H1 := H1'; clear H1'
 have H2' := Aside0.mk (Kd.C_below H2.out hbb); clear H2; have H2 := H2'; clear H2'
 clear hbb
 go_wp2_with fail
 refine (pianolalaw07_large.calls A1 c1 l1 false _ H1.out HA.out.2 HL1.out).mono ?_
 rintro e w2 ⟨rfl, hd⟩
 have hb := hd.below; clear hd
 have hbb := hb; clear hb
 have HB' := Aside0.mk (below_then HB.out HB.out.size hbb); clear HB; have HB := HB'; clear HB'
 have H0' := Aside0.mk (Kd.C_below H0.out hbb); clear H0; have H0 := H0'; clear H0'
 have H1' := Aside0.mk (Kd.C_below H1.out hbb); clear H1; have H1 := H1'; clear H1'
 have H2' := Aside0.mk (Kd.C_below H2.out hbb); clear H2; have H2 := H2'; clear H2'
 clear hbb
 go_wp2_with fail
 refine (pianolalaw07_given_calls A0 c0 l0 _ H0.out HA.out.1 (by have := HLE.out; omega)).mono ?_
 rintro e w3 ⟨v, rfl, hR, hb⟩
 have hbb := hb; clear hb
 have HB' := Aside0.mk (below_then HB.out HB.out.size hbb); clear HB; have HB := HB'; clear HB'
 have H0' := Aside0.mk (Kd.C_below H0.out hbb); clear H0; have H0 := H0'; clear H0'
 have H1' := Aside0.mk (Kd.C_below H1.out hbb); clear H1; have H1 := H1'; clear H1'
 have H2' := Aside0.mk (Kd.C_below H2.out hbb); clear H2; have H2 := H2'; clear H2'
 clear hbb
 rw [HX.out] at hR
 obtain ⟨Ax, cx, rfl, hcx, hCx⟩ := Kd.R_reads hR
 clear hR
 have HCx := Aside0.mk hCx; clear hCx
 go_wp2_with fail
 refine (pianolalaw07_given_calls A1 c1 l1 _ H1.out HA.out.2 (by have := HLE.out; omega)).mono ?_
 rintro e w4 ⟨v, rfl, hR, hb⟩
 have hbb := hb; clear hb
 have HB' := Aside0.mk (below_then HB.out HB.out.size hbb); clear HB; have HB := HB'; clear HB'
 have H0' := Aside0.mk (Kd.C_below H0.out hbb); clear H0; have H0 := H0'; clear H0'
 have H1' := Aside0.mk (Kd.C_below H1.out hbb); clear H1; have H1 := H1'; clear H1'
 have H2' := Aside0.mk (Kd.C_below H2.out hbb); clear H2; have H2 := H2'; clear H2'
 have HCx' := Aside0.mk (Kd.C_below HCx.out hbb); clear HCx; have HCx := HCx'; clear HCx'
 clear hbb
 rw [HY.out] at hR
 obtain ⟨Ay, cy, rfl, hcy, hCy⟩ := Kd.R_reads hR
 clear hR
 have HCy := Aside0.mk hCy; clear hCy
 go_wp2_with fail
 refine (align_Height.calls A0 c0 l0 A1 c1 l1 A2 c2 l2 m e1 _ H0.out HA.out.1 H1.out HA.out.2 H2.out HA2.out (by have := HLE.out; omega) HF.out.1).mono ?_
 rintro e w5 ⟨rfl, hb⟩
 have hbb := hb; clear hb
 have HB' := Aside0.mk (below_then HB.out HB.out.size hbb); clear HB; have HB := HB'; clear HB'
 have H0' := Aside0.mk (Kd.C_below H0.out hbb); clear H0; have H0 := H0'; clear H0'
 have H1' := Aside0.mk (Kd.C_below H1.out hbb); clear H1; have H1 := H1'; clear H1'
 have H2' := Aside0.mk (Kd.C_below H2.out hbb); clear H2; have H2 := H2'; clear H2'
 have HCx' := Aside0.mk (Kd.C_below HCx.out hbb); clear HCx; have HCx := HCx'; clear HCx'
 have HCy' := Aside0.mk (Kd.C_below HCy.out hbb); clear HCy; have HCy := HCy'; clear HCy'
 clear hbb
 go_wp2_with fail
 refine (pianolalaw07_listed_calls A2 c2 l2 _ H2.out HA2.out (by have := HLE.out; omega)).mono ?_
 rintro e w6 ⟨v, rfl, hR, hb⟩
 have hbb := hb; clear hb
 have HB' := Aside0.mk (below_then HB.out HB.out.size hbb); clear HB; have HB := HB'; clear HB'
 have H0' := Aside0.mk (Kd.C_below H0.out hbb); clear H0; have H0 := H0'; clear H0'
 have H1' := Aside0.mk (Kd.C_below H1.out hbb); clear H1; have H1 := H1'; clear H1'
 have H2' := Aside0.mk (Kd.C_below H2.out hbb); clear H2; have H2 := H2'; clear H2'
 have HCx' := Aside0.mk (Kd.C_below HCx.out hbb); clear HCx; have HCx := HCx'; clear HCx'
 have HCy' := Aside0.mk (Kd.C_below HCy.out hbb); clear HCy; have HCy := HCy'; clear HCy'
 clear hbb
 rw [HZ.out] at hR
 obtain ⟨Az, cz, rfl, hcz, hCz⟩ := Kd.R_reads hR
 clear hR
 have HCz := Aside0.mk hCz; clear hCz
 go_wp2_with fail
 refine (pianolaref07_Height.calls 400 Ax cx x Ay cy y Az cz z m e1 _ HCx.out hcx HCy.out hcy HCz.out hcz HF.out.2.1).mono ?_
 rintro e w7 ⟨rfl, hb⟩
 have hbb := hb; clear hb
 have HB' := Aside0.mk (below_then HB.out HB.out.size hbb); clear HB; have HB := HB'; clear HB'
 have H0' := Aside0.mk (Kd.C_below H0.out hbb); clear H0; have H0 := H0'; clear H0'
 have H1' := Aside0.mk (Kd.C_below H1.out hbb); clear H1; have H1 := H1'; clear H1'
 have H2' := Aside0.mk (Kd.C_below H2.out hbb); clear H2; have H2 := H2'; clear H2'
 have HCx' := Aside0.mk (Kd.C_below HCx.out hbb); clear HCx; have HCx := HCx'; clear HCx'
 have HCy' := Aside0.mk (Kd.C_below HCy.out hbb); clear HCy; have HCy := HCy'; clear HCy'
 have HCz' := Aside0.mk (Kd.C_below HCz.out hbb); clear HCz; have HCz := HCz'; clear HCz'
 clear hbb
 go_wp2_with fail
 refine (align_Walks.calls A0 c0 l0 A1 c1 l1 hh c e2 _ H0.out HA.out.1 H1.out HA.out.2 HF.out.2.2).mono ?_
 rintro e w8 ⟨rfl, hb⟩
 have hbb := hb; clear hb
 have HB' := Aside0.mk (below_then HB.out HB.out.size hbb); clear HB; have HB := HB'; clear HB'
 have H0' := Aside0.mk (Kd.C_below H0.out hbb); clear H0; have H0 := H0'; clear H0'
 have H1' := Aside0.mk (Kd.C_below H1.out hbb); clear H1; have H1 := H1'; clear H1'
 have H2' := Aside0.mk (Kd.C_below H2.out hbb); clear H2; have H2 := H2'; clear H2'
 have HCx' := Aside0.mk (Kd.C_below HCx.out hbb); clear HCx; have HCx := HCx'; clear HCx'
 have HCy' := Aside0.mk (Kd.C_below HCy.out hbb); clear HCy; have HCy := HCy'; clear HCy'
 have HCz' := Aside0.mk (Kd.C_below HCz.out hbb); clear HCz; have HCz := HCz'; clear HCz'
 clear hbb
 go_wp2_with fail
 refine (refWalks_calls Ax cx l0 Ay cy l1 x y hh c e2 _ HX.out HY.out HCx.out hcx HCy.out hcy HF.out.2.2).mono ?_
 rintro e w9 ⟨rfl, hb⟩
 have hbb := hb; clear hb
 have HB' := Aside0.mk (below_then HB.out HB.out.size hbb); clear HB; have HB := HB'; clear HB'
 have H0' := Aside0.mk (Kd.C_below H0.out hbb); clear H0; have H0 := H0'; clear H0'
 have H1' := Aside0.mk (Kd.C_below H1.out hbb); clear H1; have H1 := H1'; clear H1'
 have H2' := Aside0.mk (Kd.C_below H2.out hbb); clear H2; have H2 := H2'; clear H2'
 have HCx' := Aside0.mk (Kd.C_below HCx.out hbb); clear HCx; have HCx := HCx'; clear HCx'
 have HCy' := Aside0.mk (Kd.C_below HCy.out hbb); clear HCy; have HCy := HCy'; clear HCy'
 have HCz' := Aside0.mk (Kd.C_below HCz.out hbb); clear HCz; have HCz := HCz'; clear HCz'
 clear hbb
 go_wp2_with fail
 refine (works_calls _).mono ?_
 rintro e w10 ⟨rfl, hb⟩
 have hbb := hb; clear hb
 have HB' := Aside0.mk (below_then HB.out HB.out.size hbb); clear HB; have HB := HB'; clear HB'
 have H0' := Aside0.mk (Kd.C_below H0.out hbb); clear H0; have H0 := H0'; clear H0'
 have H1' := Aside0.mk (Kd.C_below H1.out hbb); clear H1; have H1 := H1'; clear H1'
 have H2' := Aside0.mk (Kd.C_below H2.out hbb); clear H2; have H2 := H2'; clear H2'
 have HCx' := Aside0.mk (Kd.C_below HCx.out hbb); clear HCx; have HCx := HCx'; clear HCx'
 have HCy' := Aside0.mk (Kd.C_below HCy.out hbb); clear HCy; have HCy := HCy'; clear HCy'
 have HCz' := Aside0.mk (Kd.C_below HCz.out hbb); clear HCz; have HCz := HCz'; clear HCz'
 clear hbb
 go_wp2
 go_ret
 exact ⟨rfl, HB.out⟩

end Go.Proofs.Ytkocigldchiifaa.H
