/- Texts U0 of this chapter, one behind the other. -/
import Derived.Test.YtkocigldchiifaaXB
import Derived.Test.YtkocigldchiifaaXD
import Derived.Test.YtkocigldchiifaaXF
import Derived.Test.YtkocigldchiifaaXJ

/- pianolalaw07.AlignGaps. -/
namespace Go.Proofs.Ytkocigldchiifaa.H
open Go.RowKit Go.Proofs.YtkocigldchiifaaW.PrintWords Go.Proofs.YtkocigldchiifaaW.PrintLast Go.Proofs.YtkocigldchiifaaW.PrintMore
open Go.Shelf Go.Proofs.Ytkocigldchiifaa.QA
set_option linter.unusedVariables false
set_option linter.unusedSimpArgs false

theorem walk_len {a b : List S59} {wl : List S25} {e : Int} (h : align_Walk.f a b = some (wl, e)) : wl.length ≤ 1000 := by
 unfold align_Walk.f at h
 obtain ⟨c, hc, h⟩ := Option.bind_eq_some_iff.1 h
 have h := Option.some.inj h
 by_cases h0 : c = 0
 · subst h0
   rw [if_pos rfl] at h
   obtain ⟨rfl, rfl⟩ := Prod.mk.inj h
   have hR := rolls_of hc
   have h1 := walkOf_len a b
   have h2 := hR.ha
   have h3 := hR.hb
   omega
 · rw [if_neg h0] at h
   obtain ⟨rfl, rfl⟩ := Prod.mk.inj h
   simp
theorem large_f (l : List S59) : pianolalaw07_large.f l = some (decide (60 < l.length)) := by
 unfold pianolalaw07_large.f
 rw [Option.some.injEq, decide_eq_decide]
 omega
set_option maxRecDepth 100000 in
set_option maxHeartbeats 4000000 in
theorem alignGaps_calls (A0 : Option Addr) (c0 : Nat) (l0 : List S59) (A1 : Option Addr) (c1 : Nat) (l1 : List S59) (p q : Int) (w : World) (hC0 : Kd.C k59 w A0 l0.length l0) (hc0 : l0.length ≤ c0) (hC1 : Kd.C k59 w A1 l1.length l1) (hc1 : l1.length ≤ c1) :
  Calls Try.prog 3 #[.slice A0 l0.length c0, .slice A1 l1.length c1, .agg #[.int .i64 p, .int .i64 q]] w fun e w' => e = .returned (.bool true) ∧ Below w.heap.size w w' := by
  have hu25 := Try.underlying25
  have H0 := Aside0.mk hC0
  have H1 := Aside0.mk hC1
  have HA := Aside0.mk (And.intro hc0 hc1)
  have HB := Aside0.mk (Below.refl w.heap.size w)
  have BX := Aside0.mk (blk_new w (.cells #[.int .i64 p, .int .i64 q] 25))
  clear hC0 hC1 hc0 hc1
  by_cases g0 : 60 < l0.length
  · have HL0 := Aside0.mk (show pianolalaw07_large.f l0 = some true by rw [large_f, decide_eq_true g0])
    clear g0
    go_enter Try.func3, Try.ntmps3
    go_wp2_with fail
    refine (pianolalaw07_large.calls A0 c0 l0 true _ (by exact (Kd.C_below H0.out (below_alloc (Below.refl w.heap.size w) _))) HA.out.1 HL0.out).mono ?_
    rintro e w1 ⟨rfl, hd⟩
    have hb := hd.below; clear hd
    have BX' := Aside0.mk (blk_below BX.out hb); clear BX; have BX := BX'; clear BX'
    have hbb := below_then (below_alloc (Below.refl w.heap.size w) _) (by simp) hb; clear hb
    have HB' := Aside0.mk (below_then HB.out HB.out.size hbb); clear HB; have HB := HB'; clear HB'
    have H0' := Aside0.mk (Kd.C_below H0.out hbb); clear H0; have H0 := H0'; clear H0'
    have H1' := Aside0.mk (Kd.C_below H1.out hbb); clear H1; have H1 := H1'; clear H1'
    clear hbb
    go_wp2_with fail
    refine (works_calls _).mono ?_
    rintro e w2 ⟨rfl, hb⟩
    have BX' := Aside0.mk (blk_below BX.out hb); clear BX; have BX := BX'; clear BX'
    have hbb := hb; clear hb
    have HB' := Aside0.mk (below_then HB.out HB.out.size hbb); clear HB; have HB := HB'; clear HB'
    have H0' := Aside0.mk (Kd.C_below H0.out hbb); clear H0; have H0 := H0'; clear H0'
    have H1' := Aside0.mk (Kd.C_below H1.out hbb); clear H1; have H1 := H1'; clear H1'
    clear hbb
    go_wp2
    go_ret
    exact ⟨rfl, HB.out⟩
  by_cases g1 : 60 < l1.length
  · have HL0 := Aside0.mk (show pianolalaw07_large.f l0 = some false by rw [large_f, decide_eq_false g0])
    have HL1 := Aside0.mk (show pianolalaw07_large.f l1 = some true by rw [large_f, decide_eq_true g1])
    clear g0 g1
    go_enter Try.func3, Try.ntmps3
    go_wp2_with fail
    refine (pianolalaw07_large.calls A0 c0 l0 false _ (by exact (Kd.C_below H0.out (below_alloc (Below.refl w.heap.size w) _))) HA.out.1 HL0.out).mono ?_
    rintro e w1 ⟨rfl, hd⟩
    have hb := hd.below; clear hd
    have BX' := Aside0.mk (blk_below BX.out hb); clear BX; have BX := BX'; clear BX'
    have hbb := below_then (below_alloc (Below.refl w.heap.size w) _) (by simp) hb; clear hb
    have HB' := Aside0.mk (below_then HB.out HB.out.size hbb); clear HB; have HB := HB'; clear HB'
    have H0' := Aside0.mk (Kd.C_below H0.out hbb); clear H0; have H0 := H0'; clear H0'
    have H1' := Aside0.mk (Kd.C_below H1.out hbb); clear H1; have H1 := H1'; clear H1'
    clear hbb
    go_wp2_with fail
    refine (pianolalaw07_large.calls A1 c1 l1 true _ H1.out HA.out.2 HL1.out).mono ?_
    rintro e w2 ⟨rfl, hd⟩
    have hb := hd.below; clear hd
    have BX' := Aside0.mk (blk_below BX.out hb); clear BX; have BX := BX'; clear BX'
    have hbb := hb; clear hb
    have HB' := Aside0.mk (below_then HB.out HB.out.size hbb); clear HB; have HB := HB'; clear HB'
    have H0' := Aside0.mk (Kd.C_below H0.out hbb); clear H0; have H0 := H0'; clear H0'
    have H1' := Aside0.mk (Kd.C_below H1.out hbb); clear H1; have H1 := H1'; clear H1'
    clear hbb
    go_wp2_with fail
    refine (works_calls _).mono ?_
    rintro e w3 ⟨rfl, hb⟩
    have BX' := Aside0.mk (blk_below BX.out hb); clear BX; have BX := BX'; clear BX'
    have hbb := hb; clear hb
    have HB' := Aside0.mk (below_then HB.out HB.out.size hbb); clear HB; have HB := HB'; clear HB'
    have H0' := Aside0.mk (Kd.C_below H0.out hbb); clear H0; have H0 := H0'; clear H0'
    have H1' := Aside0.mk (Kd.C_below H1.out hbb); clear H1; have H1 := H1'; clear H1'
    clear hbb
    go_wp2
    go_ret
    exact ⟨rfl, HB.out⟩
  · have HL0 := Aside0.mk (show pianolalaw07_large.f l0 = some false by rw [large_f, decide_eq_false g0])
    have HL1 := Aside0.mk (show pianolalaw07_large.f l1 = some false by rw [large_f, decide_eq_false g1])
    have HLE := Aside0.mk (show l0.length ≤ 60 ∧ l1.length ≤ 60 by omega)
    obtain ⟨⟨m, e1⟩, hD⟩ : ∃ t, align_Distance.f l0 l1 p q = some t := ⟨_, rfl⟩
    obtain ⟨⟨c, e2⟩, hG⟩ : ∃ t, align_Gap.f l0 l1 = some t := ⟨_, rfl⟩
    obtain ⟨⟨wl, e3⟩, hW⟩ : ∃ t, align_Walk.f l0 l1 = some t := ⟨_, rfl⟩
    obtain ⟨ch, hK⟩ : ∃ t, align_Check.f l0 l1 = some t := ⟨_, rfl⟩
    obtain ⟨x, hx⟩ : ∃ x, l0.map ev = x := ⟨_, rfl⟩
    obtain ⟨y, hy⟩ : ∃ y, l1.map ev = y := ⟨_, rfl⟩
    obtain ⟨vl, hv⟩ : ∃ v, wl.map pr = v := ⟨_, rfl⟩
    have HX := Aside0.mk hx
    have HY := Aside0.mk hy
    have HF := Aside0.mk (show align_Distance.f l0 l1 p q = some (m, e1) ∧ pianolaref07_Distance.f 400 x y p q = some (m, e1) ∧ align_Gap.f l0 l1 = some (c, e2) ∧ pianolaref07_Gap.f 400 x y = some (c, e2) ∧ align_Walk.f l0 l1 = some (wl, e3) ∧ pianolaref07_Walk.f 400 x y = some (vl, e3) ∧ pianolalaw07_same.f 2000 wl vl = some true ∧ align_Check.f l0 l1 = some ch ∧ pianolaref07_Check.f 400 x y = some ch from by
     refine ⟨hD, ?_, hG, ?_, hW, ?_, ?_, hK, ?_⟩
     · rw [← hx, ← hy, refDistance_f _ _ _ _ _ (by omega), hD]
     · rw [← hx, ← hy, refGap_f _ _ _ (by omega), hG]
     · rw [← hx, ← hy, refWalk_f _ _ _ (by omega), hW, ← hv]; rfl
     · have := walk_len hW
       rw [← hv]; exact same_f _ _ this (by omega)
     · rw [← hx, ← hy, refCheck_f _ _ _ (by omega), hK])
    clear hD hG hW hK hx hy hv g0 g1
    go_enter Try.func3, Try.ntmps3
    go_wp2_with fail
    refine (pianolalaw07_large.calls A0 c0 l0 false _ (by exact (Kd.C_below H0.out (below_alloc (Below.refl w.heap.size w) _))) HA.out.1 HL0.out).mono ?_
    rintro e w1 ⟨rfl, hd⟩
    have hb := hd.below; clear hd
    have BX' := Aside0.mk (blk_below BX.out hb); clear BX; have BX := BX'; clear BX'
    have hbb := below_then (below_alloc (Below.refl w.heap.size w) _) (by simp) hb; clear hb
    have HB' := Aside0.mk (below_then HB.out HB.out.size hbb); clear HB; have HB := HB'; clear HB'
    have H0' := Aside0.mk (Kd.C_below H0.out hbb); clear H0; have H0 := H0'; clear H0'
    have H1' := Aside0.mk (Kd.C_below H1.out hbb); clear H1; have H1 := H1'; clear H1'
    clear hbb
    go_wp2_with fail
    refine (pianolalaw07_large.calls A1 c1 l1 false _ H1.out HA.out.2 HL1.out).mono ?_
    rintro e w2 ⟨rfl, hd⟩
    have hb := hd.below; clear hd
    have BX' := Aside0.mk (blk_below BX.out hb); clear BX; have BX := BX'; clear BX'
    have hbb := hb; clear hb
    have HB' := Aside0.mk (below_then HB.out HB.out.size hbb); clear HB; have HB := HB'; clear HB'
    have H0' := Aside0.mk (Kd.C_below H0.out hbb); clear H0; have H0 := H0'; clear H0'
    have H1' := Aside0.mk (Kd.C_below H1.out hbb); clear H1; have H1 := H1'; clear H1'
    clear hbb
    go_wp2_with fail
    refine (pianolalaw07_given_calls A0 c0 l0 _ H0.out HA.out.1 (by have := HLE.out; omega)).mono ?_
    rintro e w3 ⟨v, rfl, hR, hb⟩
    have BX' := Aside0.mk (blk_below BX.out hb); clear BX; have BX := BX'; clear BX'
    have hbb := hb; clear hb
    have HB' := Aside0.mk (below_then HB.out HB.out.size hbb); clear HB; have HB := HB'; clear HB'
    have H0' := Aside0.mk (Kd.C_below H0.out hbb); clear H0; have H0 := H0'; clear H0'
    have H1' := Aside0.mk (Kd.C_below H1.out hbb); clear H1; have H1 := H1'; clear H1'
    clear hbb
    rw [HX.out] at hR
    obtain ⟨Ax, cx, rfl, hcx, hCx⟩ := Kd.R_reads hR
    clear hR
    have HCx := Aside0.mk hCx; clear hCx
    go_wp2_with fail
    refine (pianolalaw07_given_calls A1 c1 l1 _ H1.out HA.out.2 (by have := HLE.out; omega)).mono ?_
    rintro e w4 ⟨v, rfl, hR, hb⟩
    have BX' := Aside0.mk (blk_below BX.out hb); clear BX; have BX := BX'; clear BX'
    have hbb := hb; clear hb
    have HB' := Aside0.mk (below_then HB.out HB.out.size hbb); clear HB; have HB := HB'; clear HB'
    have H0' := Aside0.mk (Kd.C_below H0.out hbb); clear H0; have H0 := H0'; clear H0'
    have H1' := Aside0.mk (Kd.C_below H1.out hbb); clear H1; have H1 := H1'; clear H1'
    have HCx' := Aside0.mk (Kd.C_below HCx.out hbb); clear HCx; have HCx := HCx'; clear HCx'
    clear hbb
    rw [HY.out] at hR
    obtain ⟨Ay, cy, rfl, hcy, hCy⟩ := Kd.R_reads hR
    clear hR
    have HCy := Aside0.mk hCy; clear hCy
    have kb0 : w4.cell? ⟨w.heap.size, 0, none⟩ = some (.int .i64 p) := (blk_cell BX.out 0).trans rfl
    have kb1 : w4.cell? ⟨w.heap.size, 1, none⟩ = some (.int .i64 q) := (blk_cell BX.out 1).trans rfl
    go_wp2_with fail
    refine (align_Distance.calls A0 c0 l0 A1 c1 l1 p q m e1 _ H0.out HA.out.1 H1.out HA.out.2 HF.out.1).mono ?_
    rintro e w5 ⟨rfl, hb⟩
    have BX' := Aside0.mk (blk_below BX.out hb); clear BX; have BX := BX'; clear BX'
    have hbb := hb; clear hb
    have HB' := Aside0.mk (below_then HB.out HB.out.size hbb); clear HB; have HB := HB'; clear HB'
    have H0' := Aside0.mk (Kd.C_below H0.out hbb); clear H0; have H0 := H0'; clear H0'
    have H1' := Aside0.mk (Kd.C_below H1.out hbb); clear H1; have H1 := H1'; clear H1'
    have HCx' := Aside0.mk (Kd.C_below HCx.out hbb); clear HCx; have HCx := HCx'; clear HCx'
    have HCy' := Aside0.mk (Kd.C_below HCy.out hbb); clear HCy; have HCy := HCy'; clear HCy'
    clear hbb
    clear kb0 kb1
    have kb0 : w5.cell? ⟨w.heap.size, 0, none⟩ = some (.int .i64 p) := (blk_cell BX.out 0).trans rfl
    have kb1 : w5.cell? ⟨w.heap.size, 1, none⟩ = some (.int .i64 q) := (blk_cell BX.out 1).trans rfl
    go_wp2_with fail
    refine (pianolaref07_Distance.calls 400 Ax cx x Ay cy y p q m e1 _ HCx.out hcx HCy.out hcy HF.out.2.1).mono ?_
    rintro e w6 ⟨rfl, hb⟩
    have BX' := Aside0.mk (blk_below BX.out hb); clear BX; have BX := BX'; clear BX'
    have hbb := hb; clear hb
    have HB' := Aside0.mk (below_then HB.out HB.out.size hbb); clear HB; have HB := HB'; clear HB'
    have H0' := Aside0.mk (Kd.C_below H0.out hbb); clear H0; have H0 := H0'; clear H0'
    have H1' := Aside0.mk (Kd.C_below H1.out hbb); clear H1; have H1 := H1'; clear H1'
    have HCx' := Aside0.mk (Kd.C_below HCx.out hbb); clear HCx; have HCx := HCx'; clear HCx'
    have HCy' := Aside0.mk (Kd.C_below HCy.out hbb); clear HCy; have HCy := HCy'; clear HCy'
    clear hbb
    clear kb0 kb1
    go_wp2_with fail
    refine (align_Gap.calls A0 c0 l0 A1 c1 l1 c e2 _ H0.out HA.out.1 H1.out HA.out.2 HF.out.2.2.1).mono ?_
    rintro e w7 ⟨rfl, hb⟩
    have hbb := hb; clear hb
    have HB' := Aside0.mk (below_then HB.out HB.out.size hbb); clear HB; have HB := HB'; clear HB'
    have H0' := Aside0.mk (Kd.C_below H0.out hbb); clear H0; have H0 := H0'; clear H0'
    have H1' := Aside0.mk (Kd.C_below H1.out hbb); clear H1; have H1 := H1'; clear H1'
    have HCx' := Aside0.mk (Kd.C_below HCx.out hbb); clear HCx; have HCx := HCx'; clear HCx'
    have HCy' := Aside0.mk (Kd.C_below HCy.out hbb); clear HCy; have HCy := HCy'; clear HCy'
    clear hbb
    go_wp2_with fail
    refine (pianolaref07_Gap.calls 400 Ax cx x Ay cy y c e2 _ HCx.out hcx HCy.out hcy HF.out.2.2.2.1).mono ?_
    rintro e w8 ⟨rfl, hb⟩
    have hbb := hb; clear hb
    have HB' := Aside0.mk (below_then HB.out HB.out.size hbb); clear HB; have HB := HB'; clear HB'
    have H0' := Aside0.mk (Kd.C_below H0.out hbb); clear H0; have H0 := H0'; clear H0'
    have H1' := Aside0.mk (Kd.C_below H1.out hbb); clear H1; have H1 := H1'; clear H1'
    have HCx' := Aside0.mk (Kd.C_below HCx.out hbb); clear HCx; have HCx := HCx'; clear HCx'
    have HCy' := Aside0.mk (Kd.C_below HCy.out hbb); clear HCy; have HCy := HCy'; clear HCy'
    clear hbb
    go_wp2_with fail
    refine (align_Walk.calls A0 c0 l0 A1 c1 l1 wl e3 _ H0.out HA.out.1 H1.out HA.out.2 HF.out.2.2.2.2.1).mono ?_
    rintro e w9 ⟨v, rfl, hR, hb⟩
    have hbb := hb; clear hb
    have HB' := Aside0.mk (below_then HB.out HB.out.size hbb); clear HB; have HB := HB'; clear HB'
    have H0' := Aside0.mk (Kd.C_below H0.out hbb); clear H0; have H0 := H0'; clear H0'
    have H1' := Aside0.mk (Kd.C_below H1.out hbb); clear H1; have H1 := H1'; clear H1'
    have HCx' := Aside0.mk (Kd.C_below HCx.out hbb); clear HCx; have HCx := HCx'; clear HCx'
    have HCy' := Aside0.mk (Kd.C_below HCy.out hbb); clear HCy; have HCy := HCy'; clear HCy'
    clear hbb
    obtain ⟨Aw, cw, rfl, hcw, hCw⟩ := Kd.R_reads hR
    clear hR
    have HCw := Aside0.mk hCw; clear hCw
    go_wp2_with fail
    refine (pianolaref07_Walk.calls 400 Ax cx x Ay cy y vl e3 _ HCx.out hcx HCy.out hcy HF.out.2.2.2.2.2.1).mono ?_
    rintro e w10 ⟨v, rfl, hR, hb⟩
    have hbb := hb; clear hb
    have HB' := Aside0.mk (below_then HB.out HB.out.size hbb); clear HB; have HB := HB'; clear HB'
    have H0' := Aside0.mk (Kd.C_below H0.out hbb); clear H0; have H0 := H0'; clear H0'
    have H1' := Aside0.mk (Kd.C_below H1.out hbb); clear H1; have H1 := H1'; clear H1'
    have HCx' := Aside0.mk (Kd.C_below HCx.out hbb); clear HCx; have HCx := HCx'; clear HCx'
    have HCy' := Aside0.mk (Kd.C_below HCy.out hbb); clear HCy; have HCy := HCy'; clear HCy'
    have HCw' := Aside0.mk (Kd.C_below HCw.out hbb); clear HCw; have HCw := HCw'; clear HCw'
    clear hbb
    obtain ⟨Av, cv, rfl, hcv, hCv⟩ := Kd.R_reads hR
    clear hR
    have HCv := Aside0.mk hCv; clear hCv
    go_wp2_with fail
    refine (pianolalaw07_same.calls 2000 Aw cw wl Av cv vl true _ HCw.out hcw HCv.out hcv HF.out.2.2.2.2.2.2.1).mono ?_
    rintro e w11 ⟨rfl, hd⟩
    have hb := hd.below; clear hd
    have hbb := hb; clear hb
    have HB' := Aside0.mk (below_then HB.out HB.out.size hbb); clear HB; have HB := HB'; clear HB'
    have H0' := Aside0.mk (Kd.C_below H0.out hbb); clear H0; have H0 := H0'; clear H0'
    have H1' := Aside0.mk (Kd.C_below H1.out hbb); clear H1; have H1 := H1'; clear H1'
    have HCx' := Aside0.mk (Kd.C_below HCx.out hbb); clear HCx; have HCx := HCx'; clear HCx'
    have HCy' := Aside0.mk (Kd.C_below HCy.out hbb); clear HCy; have HCy := HCy'; clear HCy'
    have HCw' := Aside0.mk (Kd.C_below HCw.out hbb); clear HCw; have HCw := HCw'; clear HCw'
    have HCv' := Aside0.mk (Kd.C_below HCv.out hbb); clear HCv; have HCv := HCv'; clear HCv'
    clear hbb
    go_wp2_with fail
    refine (align_Check.calls A0 c0 l0 A1 c1 l1 ch _ H0.out HA.out.1 H1.out HA.out.2 HF.out.2.2.2.2.2.2.2.1).mono ?_
    rintro e w12 ⟨rfl, hb⟩
    have hbb := hb; clear hb
    have HB' := Aside0.mk (below_then HB.out HB.out.size hbb); clear HB; have HB := HB'; clear HB'
    have H0' := Aside0.mk (Kd.C_below H0.out hbb); clear H0; have H0 := H0'; clear H0'
    have H1' := Aside0.mk (Kd.C_below H1.out hbb); clear H1; have H1 := H1'; clear H1'
    have HCx' := Aside0.mk (Kd.C_below HCx.out hbb); clear HCx; have HCx := HCx'; clear HCx'
    have HCy' := Aside0.mk (Kd.C_below HCy.out hbb); clear HCy; have HCy := HCy'; clear HCy'
    have HCw' := Aside0.mk (Kd.C_below HCw.out hbb); clear HCw; have HCw := HCw'; clear HCw'
    have HCv' := Aside0.mk (Kd.C_below HCv.out hbb); clear HCv; have HCv := HCv'; clear HCv'
    clear hbb
    go_wp2_with fail
    refine (pianolaref07_Check.calls 400 Ax cx x Ay cy y ch _ HCx.out hcx HCy.out hcy HF.out.2.2.2.2.2.2.2.2).mono ?_
    rintro e w13 ⟨rfl, hd⟩
    have hb := hd.below; clear hd
    have hbb := hb; clear hb
    have HB' := Aside0.mk (below_then HB.out HB.out.size hbb); clear HB; have HB := HB'; clear HB'
    have H0' := Aside0.mk (Kd.C_below H0.out hbb); clear H0; have H0 := H0'; clear H0'
    have H1' := Aside0.mk (Kd.C_below H1.out hbb); clear H1; have H1 := H1'; clear H1'
    have HCx' := Aside0.mk (Kd.C_below HCx.out hbb); clear HCx; have HCx := HCx'; clear HCx'
    have HCy' := Aside0.mk (Kd.C_below HCy.out hbb); clear HCy; have HCy := HCy'; clear HCy'
    have HCw' := Aside0.mk (Kd.C_below HCw.out hbb); clear HCw; have HCw := HCw'; clear HCw'
    have HCv' := Aside0.mk (Kd.C_below HCv.out hbb); clear HCv; have HCv := HCv'; clear HCv'
    clear hbb
    go_wp2_with fail
    refine (works_calls _).mono ?_
    rintro e w14 ⟨rfl, hb⟩
    have hbb := hb; clear hb
    have HB' := Aside0.mk (below_then HB.out HB.out.size hbb); clear HB; have HB := HB'; clear HB'
    have H0' := Aside0.mk (Kd.C_below H0.out hbb); clear H0; have H0 := H0'; clear H0'
    have H1' := Aside0.mk (Kd.C_below H1.out hbb); clear H1; have H1 := H1'; clear H1'
    have HCx' := Aside0.mk (Kd.C_below HCx.out hbb); clear HCx; have HCx := HCx'; clear HCx'
    have HCy' := Aside0.mk (Kd.C_below HCy.out hbb); clear HCy; have HCy := HCy'; clear HCy'
    have HCw' := Aside0.mk (Kd.C_below HCw.out hbb); clear HCw; have HCw := HCw'; clear HCw'
    have HCv' := Aside0.mk (Kd.C_below HCv.out hbb); clear HCv; have HCv := HCv'; clear HCv'
    clear hbb
    go_wp2
    go_ret
    exact ⟨rfl, HB.out⟩

end Go.Proofs.Ytkocigldchiifaa.H
