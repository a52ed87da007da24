/- The walk of the law StepOffsets: it returns true. Printed by gen_law4.py of this session. -/
import Derived.Test.YtnbcdbkhpdpjgaaHG
import Derived.Test.YtnbcdbkhpdpjgaaHB
namespace Go.Proofs.Ytnbcdbkhpdpjgaa.H
open Go.RowKit Go.Proofs.YtnbcdbkhpdpjgaaW.PrintWords Go.Proofs.YtnbcdbkhpdpjgaaW.PrintLast Go.Proofs.YtnbcdbkhpdpjgaaW.PrintMore
open Go.Shelf Go.Proofs.Ytnbcdbkhpdpjgaa.QA
set_option linter.unusedVariables false
set_option linter.unusedSimpArgs false

set_option maxHeartbeats 8000000 in
set_option maxRecDepth 100000 in
theorem stepOffsets_calls (a : Int) (A : Option Addr) (c : Nat) (l : List (List Int)) (a1 a2 a3 : Int) (w : World) (hr : Kd.C (Kd.slice 3 (Kd.int .i64)) w A l.length l) (hc : l.length ≤ c) :
    Calls Try.prog 4 #[.agg #[.int .i64 a, .slice A l.length c], .int .i64 a1, .int .i64 a2, .int .i64 a3] w fun e w' => e = .returned (.bool true) ∧ Below w.heap.size w w' := by
  have HB := Aside0.mk (Below.refl w.heap.size w)
  have HR := Aside0.mk hr
  clear hr
  have hu24 := Try.underlying24
  have hu31 := Try.underlying31
  cases hla : largeOf l with
  | true =>
    have HL := Aside0.mk ((large_f a l 1000 (by omega)).trans (congrArg some hla)); clear hla
    go_enter Try.func4, Try.ntmps4
    go_wp2_with fail
    refine (pianolalaw01_large.calls 1000 a A c l true _ (Kd.C_alloc HR.out _) hc HL.out).mono ?_
    rintro e w1 ⟨rfl, hb⟩
    have K0 := Aside0.mk (pw_cell_below hb (a := ⟨w.heap.size, 0, none⟩) (v := .int .i64 a) (by simp))
    have K1 := Aside0.mk (pw_cell_below hb (a := ⟨w.heap.size, 1, none⟩) (v := .slice A l.length c) (by simp))
    have HR' := Aside0.mk (Kd.C_below (Kd.C_alloc HR.out _) hb); clear HR; have HR := HR'; clear HR'
    have HB' := Aside0.mk (below_then (below_alloc (Below.refl w.heap.size w) _) (by simp) hb); clear HB; have HB := HB'; clear HB' hb
    have hk0 := K0.out; have hk1 := K1.out
    clear hk0 hk1
    go_wp2_with fail
    refine (works_calls _).mono ?_
    rintro e w2 ⟨rfl, hb⟩
    have HB' := Aside0.mk (below_then HB.out HB.out.size hb); clear HB hb; have HB := HB'; clear HB'
    go_wp2
    go_ret
    exact ⟨rfl, HB.out⟩
  | false =>
    have HL := Aside0.mk ((large_f a l 1000 (by omega)).trans (congrArg some hla)); clear hla
    obtain ⟨r, n, hO, hO2, hOl⟩ := offsets_same a l a1 a2
    obtain ⟨q, m, hS, hS2, hSl⟩ := rows_same a l a1 a2 a3 4000 (by omega)
    have HO := Aside0.mk hO; have HO2 := Aside0.mk (hO2 4000 (by omega)); have HS := Aside0.mk hS; have HS2 := Aside0.mk hS2; have HN := Aside0.mk (numbers_f r (by omega) 4000 (by omega)); have HP := Aside0.mk (spans_f q (by omega) 4000 (by omega)); clear hO hO2 hOl hS hS2 hSl
    go_enter Try.func4, Try.ntmps4
    go_wp2_with fail
    refine (pianolalaw01_large.calls 1000 a A c l false _ (Kd.C_alloc HR.out _) hc HL.out).mono ?_
    rintro e w3 ⟨rfl, hb⟩
    have K0 := Aside0.mk (pw_cell_below hb (a := ⟨w.heap.size, 0, none⟩) (v := .int .i64 a) (by simp))
    have K1 := Aside0.mk (pw_cell_below hb (a := ⟨w.heap.size, 1, none⟩) (v := .slice A l.length c) (by simp))
    have HR' := Aside0.mk (Kd.C_below (Kd.C_alloc HR.out _) hb); clear HR; have HR := HR'; clear HR'
    have HB' := Aside0.mk (below_then (below_alloc (Below.refl w.heap.size w) _) (by simp) hb); clear HB; have HB := HB'; clear HB' hb
    have hk0 := K0.out; have hk1 := K1.out
    go_wp2_with fail
    refine (step_Offsets.calls a A c l a1 a2 r n _ HR.out hc HO.out).mono ?_
    rintro e w4 ⟨v, rfl, hR, hb⟩
    have hbb := hb; clear hb
    have HB' := Aside0.mk (below_then HB.out HB.out.size hbb); clear HB; have HB := HB'; clear HB'
    have K0' := Aside0.mk (pw_cell_below hbb K0.out); clear K0; have K0 := K0'; clear K0'
    have K1' := Aside0.mk (pw_cell_below hbb K1.out); clear K1; have K1 := K1'; clear K1'
    have HR' := Aside0.mk (Kd.C_below HR.out hbb); clear HR; have HR := HR'; clear HR'
    clear hbb
    obtain ⟨Ax, cx, rfl, hcx, hCx⟩ := Kd.R_reads hR
    clear hR
    have Hx := Aside0.mk hCx; clear hCx
    have hk0 := K0.out; have hk1 := K1.out
    go_wp2_with fail
    refine (given_calls a A c l _ HR.out hc).mono ?_
    rintro e w5 ⟨Ag, cg, rfl, hcg, hCg, hb⟩
    have hbb := hb; clear hb
    have HB' := Aside0.mk (below_then HB.out HB.out.size hbb); clear HB; have HB := HB'; clear HB'
    have K0' := Aside0.mk (pw_cell_below hbb K0.out); clear K0; have K0 := K0'; clear K0'
    have K1' := Aside0.mk (pw_cell_below hbb K1.out); clear K1; have K1 := K1'; clear K1'
    have HR' := Aside0.mk (Kd.C_below HR.out hbb); clear HR; have HR := HR'; clear HR'
    have Hx' := Aside0.mk (Kd.C_below Hx.out hbb); clear Hx; have Hx := Hx'; clear Hx'
    clear hbb
    have Hg := Aside0.mk hCg; clear hCg
    have hk0 := K0.out; have hk1 := K1.out
    go_wp2_with fail
    refine (pianolaref01_Offsets.calls 4000 a Ag cg l a1 a2 r n _ Hg.out hcg HO2.out).mono ?_
    rintro e w6 ⟨v, rfl, hR, hb⟩
    have hbb := hb; clear hb
    have HB' := Aside0.mk (below_then HB.out HB.out.size hbb); clear HB; have HB := HB'; clear HB'
    clear Hg
    have K0' := Aside0.mk (pw_cell_below hbb K0.out); clear K0; have K0 := K0'; clear K0'
    have K1' := Aside0.mk (pw_cell_below hbb K1.out); clear K1; have K1 := K1'; clear K1'
    have HR' := Aside0.mk (Kd.C_below HR.out hbb); clear HR; have HR := HR'; clear HR'
    have Hx' := Aside0.mk (Kd.C_below Hx.out hbb); clear Hx; have Hx := Hx'; clear Hx'
    clear hbb
    clear hcg
    obtain ⟨Ay, cy, rfl, hcy, hCy⟩ := Kd.R_reads hR
    clear hR
    have Hy := Aside0.mk hCy; clear hCy
    have hk0 := K0.out; have hk1 := K1.out
    go_wp2_with fail
    refine (step_Rows.calls 4000 a A c l a1 a2 a3 q m _ HR.out hc HS.out).mono ?_
    rintro e w7 ⟨v, rfl, hR, hb⟩
    have hbb := hb; clear hb
    have HB' := Aside0.mk (below_then HB.out HB.out.size hbb); clear HB; have HB := HB'; clear HB'
    have K0' := Aside0.mk (pw_cell_below hbb K0.out); clear K0; have K0 := K0'; clear K0'
    have K1' := Aside0.mk (pw_cell_below hbb K1.out); clear K1; have K1 := K1'; clear K1'
    have HR' := Aside0.mk (Kd.C_below HR.out hbb); clear HR; have HR := HR'; clear HR'
    have Hx' := Aside0.mk (Kd.C_below Hx.out hbb); clear Hx; have Hx := Hx'; clear Hx'
    have Hy' := Aside0.mk (Kd.C_below Hy.out hbb); clear Hy; have Hy := Hy'; clear Hy'
    clear hbb
    obtain ⟨Az, cz, rfl, hcz, hCz⟩ := Kd.R_reads hR
    clear hR
    have Hz := Aside0.mk hCz; clear hCz
    have hk0 := K0.out; have hk1 := K1.out
    go_wp2_with fail
    refine (given_calls a A c l _ HR.out hc).mono ?_
    rintro e w8 ⟨Ag, cg, rfl, hcg, hCg, hb⟩
    have hbb := hb; clear hb
    have HB' := Aside0.mk (below_then HB.out HB.out.size hbb); clear HB; have HB := HB'; clear HB'
    have K0' := Aside0.mk (pw_cell_below hbb K0.out); clear K0; have K0 := K0'; clear K0'
    have K1' := Aside0.mk (pw_cell_below hbb K1.out); clear K1; have K1 := K1'; clear K1'
    have HR' := Aside0.mk (Kd.C_below HR.out hbb); clear HR; have HR := HR'; clear HR'
    have Hx' := Aside0.mk (Kd.C_below Hx.out hbb); clear Hx; have Hx := Hx'; clear Hx'
    have Hy' := Aside0.mk (Kd.C_below Hy.out hbb); clear Hy; have Hy := Hy'; clear Hy'
    have Hz' := Aside0.mk (Kd.C_below Hz.out hbb); clear Hz; have Hz := Hz'; clear Hz'
    clear hbb
    have Hg := Aside0.mk hCg; clear hCg
    have hk0 := K0.out; have hk1 := K1.out
    go_wp2_with fail
    refine (pianolaref01_Rows.calls 4000 a Ag cg l a1 a2 a3 q m _ Hg.out hcg HS2.out).mono ?_
    rintro e w9 ⟨v, rfl, hR, hb⟩
    have hbb := hb; clear hb
    have HB' := Aside0.mk (below_then HB.out HB.out.size hbb); clear HB; have HB := HB'; clear HB'
    clear Hg
    have K0' := Aside0.mk (pw_cell_below hbb K0.out); clear K0; have K0 := K0'; clear K0'
    have K1' := Aside0.mk (pw_cell_below hbb K1.out); clear K1; have K1 := K1'; clear K1'
    have HR' := Aside0.mk (Kd.C_below HR.out hbb); clear HR; have HR := HR'; clear HR'
    have Hx' := Aside0.mk (Kd.C_below Hx.out hbb); clear Hx; have Hx := Hx'; clear Hx'
    have Hy' := Aside0.mk (Kd.C_below Hy.out hbb); clear Hy; have Hy := Hy'; clear Hy'
    have Hz' := Aside0.mk (Kd.C_below Hz.out hbb); clear Hz; have Hz := Hz'; clear Hz'
    clear hbb
    clear hcg
    obtain ⟨Au, cu, rfl, hcu, hCu⟩ := Kd.R_reads hR
    clear hR
    have Hu := Aside0.mk hCu; clear hCu
    have hk0 := K0.out; have hk1 := K1.out
    clear hk0 hk1
    go_wp2_with fail
    refine (pianolalaw01_numbers.calls 4000 Ax cx r Ay cy r true _ Hx.out hcx Hy.out hcy HN.out).mono ?_
    rintro e w10 ⟨rfl, hd⟩
    have hbb := hd.below; clear hd
    have HB' := Aside0.mk (below_then HB.out HB.out.size hbb); clear HB; have HB := HB'; clear HB'
    clear Hx
    clear Hy
    have HR' := Aside0.mk (Kd.C_below HR.out hbb); clear HR; have HR := HR'; clear HR'
    have Hz' := Aside0.mk (Kd.C_below Hz.out hbb); clear Hz; have Hz := Hz'; clear Hz'
    have Hu' := Aside0.mk (Kd.C_below Hu.out hbb); clear Hu; have Hu := Hu'; clear Hu'
    clear hbb
    go_wp2_with fail
    refine (pianolalaw01_spans.calls 4000 Az cz q Au cu q true _ Hz.out hcz Hu.out hcu HP.out).mono ?_
    rintro e w11 ⟨rfl, hd⟩
    have hbb := hd.below; clear hd
    have HB' := Aside0.mk (below_then HB.out HB.out.size hbb); clear HB; have HB := HB'; clear HB'
    clear Hz
    clear Hu
    have HR' := Aside0.mk (Kd.C_below HR.out hbb); clear HR; have HR := HR'; clear HR'
    clear hbb
    go_wp2_with fail
    refine (works_calls _).mono ?_
    rintro e wz ⟨rfl, hb⟩
    have HB' := Aside0.mk (below_then HB.out HB.out.size hb); clear HB hb; have HB := HB'; clear HB'
    go_wp2
    go_ret
    exact ⟨rfl, HB.out⟩

end Go.Proofs.Ytnbcdbkhpdpjgaa.H
