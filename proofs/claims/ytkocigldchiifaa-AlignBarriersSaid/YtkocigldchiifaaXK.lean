/- Texts U1 of this chapter, one behind the other. -/
import Derived.Test.YtkocigldchiifaaXF
import Derived.Test.YtkocigldchiifaaXJ

/- pianolalaw07.AlignBarriers. -/
namespace Go.Proofs.Ytkocigldchiifaa.H
open Go.RowKit Go.Proofs.YtkocigldchiifaaW.PrintWords Go.Proofs.YtkocigldchiifaaW.PrintLast Go.Proofs.YtkocigldchiifaaW.PrintMore
open Go.Shelf Go.Proofs.Ytkocigldchiifaa.QA
set_option linter.unusedVariables false
set_option linter.unusedSimpArgs false

set_option maxRecDepth 100000 in
/-- align.Barrier of rolls that are refused. -/
theorem barrier_no (A0 : Option Addr) (c0 : Nat) (l0 : List S59) (A1 : Option Addr) (c1 : Nat) (l1 : List S59) (hh e : Int) (w : World) (hr0 : Kd.C k59 w A0 l0.length l0) (hc0 : l0.length ≤ c0) (hr1 : Kd.C k59 w A1 l1.length l1) (hc1 : l1.length ≤ c1) (he : align_Check.f l0 l1 = some e) (h0 : e ≠ 0) :
  Calls Try.prog 26 #[.slice A0 l0.length c0, .slice A1 l1.length c1, .int .i64 hh] w fun ex w' => ex = .returned (.tuple #[.slice none 0 0, .int .i64 e]) ∧ Below w.heap.size w w' := by
 have hu25 := Try.underlying25
 have HR0 := Aside0.mk hr0
 have HR1 := Aside0.mk hr1
 have HE := Aside0.mk he
 have HC := Aside0.mk (And.intro hc0 hc1)
 have hb0 : (e != 0) = true := by simp [h0]
 have H0 := Aside0.mk h0
 clear h0 he hr0 hr1 hc0 hc1
 go_enter Try.func26, Try.ntmps26
 go_wp2_with fail
 refine (newTable_no A0 c0 l0 A1 c1 l1 e _ HR0.out HC.out.1 HR1.out HC.out.2 HE.out H0.out).mono ?_
 rintro ex w1 ⟨rfl, hb⟩
 have HB := Aside0.mk hb
 clear hb
 go_wp2
 go_ret2
 exact ⟨rfl, HB.out.alloc HB.out.size _⟩
/-- Whether there is a barrier: both say it. -/
theorem barrier_any (l0 l1 : List S59) (hh : Int) : ∃ (ee : Int) (kb : Nat) (lr : List S35), pianolaref07_Barrier.f kb (l0.map ev) (l1.map ev) hh = some (lr, ee) ∧
  ∀ (A0 : Option Addr) (c0 : Nat) (A1 : Option Addr) (c1 : Nat) (w : World), Kd.C k59 w A0 l0.length l0 → l0.length ≤ c0 → Kd.C k59 w A1 l1.length l1 → l1.length ≤ c1 →
   Calls Try.prog 26 #[.slice A0 l0.length c0, .slice A1 l1.length c1, .int .i64 hh] w fun ex w' => Below w.heap.size w w' ∧ ((ee = 0 ∧ ∃ v l, ex = .returned (.tuple #[v, .int .i64 0]) ∧ Kd.R k25 25 w' w.heap.size (fun _ => True) v l ∧ align_Verify.f l0 l1 hh l = some 0 ∧ l.length ≤ 1800) ∨ (ee ≠ 0 ∧ ex = .returned (.tuple #[.slice none 0 0, .int .i64 ee]))) := by
 obtain ⟨e, hc⟩ : ∃ t, align_Check.f l0 l1 = some t := ⟨_, rfl⟩
 by_cases he : e = 0
 · subst he
   have hR := rolls_of hc
   obtain ⟨kb, lr, ee, hk, hans⟩ := refBarrier_f hR hh
   refine ⟨ee, kb, lr, hk, fun A0 c0 A1 c1 w h0 hc0 h1 hc1 => (barrier_ok A0 c0 l0 A1 c1 l1 hh w h0 hc0 h1 hc1 hc).mono ?_⟩
   rintro ex w' ⟨hb, hres⟩
   refine ⟨hb, ?_⟩
   rcases hres with ⟨v, l, rfl, hR2, hok, hl⟩ | ⟨rfl, hno⟩
   · rcases hans with ⟨h0, _⟩ | ⟨_, _, hn⟩
     · refine .inl ⟨h0, v, l, rfl, hR2, ?_, hl⟩
       unfold align_Verify.f
       rw [hc]
       show some (if (0 : Int) = 0 then verF l0 l1 hh l else 0) = _
       rw [if_pos rfl, (verF_zero l0 l1 hh l).2 hok]
     · obtain ⟨p, hp1, hp2⟩ := hok.chn
       rw [hn p hp1] at hp2
       cases hp2
   · rcases hans with ⟨_, p, hp1, hp2⟩ | ⟨h8, _, _⟩
     · rw [hno p hp1] at hp2
       cases hp2
     · refine .inr ⟨by omega, by rw [h8]⟩
 · exact ⟨e, 40, [], refBarrier_no hc he hh, fun A0 c0 A1 c1 w h0 hc0 h1 hc1 => (barrier_no A0 c0 l0 A1 c1 l1 hh e w h0 hc0 h1 hc1 hc he).mono fun ex w' ⟨h, hb⟩ => ⟨hb, .inr ⟨he, h⟩⟩⟩
theorem large_f' (l : List S59) : pianolalaw07_large.f l = some (decide (60 < l.length)) := by
 unfold pianolalaw07_large.f
 rw [Option.some.injEq, decide_eq_decide]
 omega
set_option maxRecDepth 100000 in
set_option maxHeartbeats 8000000 in
theorem alignBarriers_calls (A0 : Option Addr) (c0 : Nat) (l0 : List S59) (A1 : Option Addr) (c1 : Nat) (l1 : List S59) (hh : Int) (A3 : Option Addr) (c3 : Nat) (l3 : List S25) (w : World) (hC0 : Kd.C k59 w A0 l0.length l0) (hc0 : l0.length ≤ c0) (hC1 : Kd.C k59 w A1 l1.length l1) (hc1 : l1.length ≤ c1) (hC3 : Kd.C k25 w A3 l3.length l3) (hc3 : l3.length ≤ c3) :
  Calls Try.prog 4 #[.slice A0 l0.length c0, .slice A1 l1.length c1, .int .i64 hh, .slice A3 l3.length c3] w fun e w' => e = .returned (.bool true) ∧ Below w.heap.size w w' := by
 have hu25 := Try.underlying25
 have H0 := Aside0.mk hC0
 have H1 := Aside0.mk hC1
 have H3 := Aside0.mk hC3
 have HA := Aside0.mk (And.intro hc0 hc1)
 have HA3 := Aside0.mk hc3
 have HB := Aside0.mk (Below.refl w.heap.size w)
 clear hC0 hC1 hC3 hc0 hc1 hc3
 by_cases a1 : 12 < l0.length ∧ l0.length ≤ 30
 · have t1 : decide ((l0.length : Int) > 12) = true := decide_eq_true (by omega)
   have t2 : decide ((l0.length : Int) ≤ 30) = true := decide_eq_true (by omega)
   clear a1
   go_enter Try.func4, Try.ntmps4
   go_wp2_with fail
   refine (works_calls _).mono ?_
   rintro e w1 ⟨rfl, hb⟩
   have hbb := hb; clear hb
   have HB' := Aside0.mk (below_then HB.out HB.out.size hbb); clear HB; have HB := HB'; clear HB'
   have H0' := Aside0.mk (Kd.C_below H0.out hbb); clear H0; have H0 := H0'; clear H0'
   have H1' := Aside0.mk (Kd.C_below H1.out hbb); clear H1; have H1 := H1'; clear H1'
   have H3' := Aside0.mk (Kd.C_below H3.out hbb); clear H3; have H3 := H3'; clear H3'
   clear hbb
   go_wp2
   go_ret
   exact ⟨rfl, HB.out⟩
 have ha : (decide ((l0.length : Int) > 12) = false ∧ True) ∨ (decide ((l0.length : Int) > 12) = true ∧ decide ((l0.length : Int) ≤ 30) = false) := by
  by_cases h : 12 < l0.length
  · exact .inr ⟨decide_eq_true (by omega), decide_eq_false (by omega)⟩
  · exact .inl ⟨decide_eq_false (by omega), trivial⟩
 by_cases b1 : 12 < l1.length ∧ l1.length ≤ 30
 · have t3 : decide ((l1.length : Int) > 12) = true := decide_eq_true (by omega)
   have t4 : decide ((l1.length : Int) ≤ 30) = true := decide_eq_true (by omega)
   clear a1 b1
   rcases ha with ⟨t1, t2⟩ | ⟨t1, t2⟩
   all_goals
    go_enter Try.func4, Try.ntmps4
    go_wp2_with fail
    refine (works_calls _).mono ?_
    rintro e w1 ⟨rfl, hb⟩
    have hbb := hb; clear hb
    have HB' := Aside0.mk (below_then HB.out HB.out.size hbb); clear HB; have HB := HB'; clear HB'
    have H0' := Aside0.mk (Kd.C_below H0.out hbb); clear H0; have H0 := H0'; clear H0'
    have H1' := Aside0.mk (Kd.C_below H1.out hbb); clear H1; have H1 := H1'; clear H1'
    have H3' := Aside0.mk (Kd.C_below H3.out hbb); clear H3; have H3 := H3'; clear H3'
    clear hbb
    go_wp2
    go_ret
    exact ⟨rfl, HB.out⟩
 have hb : (decide ((l1.length : Int) > 12) = false ∧ True) ∨ (decide ((l1.length : Int) > 12) = true ∧ decide ((l1.length : Int) ≤ 30) = false) := by
  by_cases h : 12 < l1.length
  · exact .inr ⟨decide_eq_true (by omega), decide_eq_false (by omega)⟩
  · exact .inl ⟨decide_eq_false (by omega), trivial⟩
 clear a1 b1
 by_cases g0 : 60 < l0.length
 · have HL0 := Aside0.mk (show pianolalaw07_large.f l0 = some true by rw [large_f', decide_eq_true g0])
   clear g0
   rcases ha with ⟨t1, t2⟩ | ⟨t1, t2⟩ <;> rcases hb with ⟨t3, t4⟩ | ⟨t3, t4⟩
   all_goals
    go_enter Try.func4, Try.ntmps4
    go_wp2_with fail
    refine (pianolalaw07_large.calls A0 c0 l0 true _ H0.out HA.out.1 HL0.out).mono ?_
    rintro e w1 ⟨rfl, hd⟩
    have hb := hd.below; clear hd
    have hbb := hb; clear hb
    have HB' := Aside0.mk (below_then HB.out HB.out.size hbb); clear HB; have HB := HB'; clear HB'
    have H0' := Aside0.mk (Kd.C_below H0.out hbb); clear H0; have H0 := H0'; clear H0'
    have H1' := Aside0.mk (Kd.C_below H1.out hbb); clear H1; have H1 := H1'; clear H1'
    have H3' := Aside0.mk (Kd.C_below H3.out hbb); clear H3; have H3 := H3'; clear H3'
    clear hbb
    go_wp2_with fail
    refine (works_calls _).mono ?_
    rintro e w2 ⟨rfl, hb⟩
    have hbb := hb; clear hb
    have HB' := Aside0.mk (below_then HB.out HB.out.size hbb); clear HB; have HB := HB'; clear HB'
    have H0' := Aside0.mk (Kd.C_below H0.out hbb); clear H0; have H0 := H0'; clear H0'
    have H1' := Aside0.mk (Kd.C_below H1.out hbb); clear H1; have H1 := H1'; clear H1'
    have H3' := Aside0.mk (Kd.C_below H3.out hbb); clear H3; have H3 := H3'; clear H3'
    clear hbb
    go_wp2
    go_ret
    exact ⟨rfl, HB.out⟩
 have HL0 := Aside0.mk (show pianolalaw07_large.f l0 = some false by rw [large_f', decide_eq_false g0])
 by_cases g1 : 60 < l1.length
 · have HL1 := Aside0.mk (show pianolalaw07_large.f l1 = some true by rw [large_f', decide_eq_true g1])
   clear g0 g1
   rcases ha with ⟨t1, t2⟩ | ⟨t1, t2⟩ <;> rcases hb with ⟨t3, t4⟩ | ⟨t3, t4⟩
   all_goals
    go_enter Try.func4, Try.ntmps4
    go_wp2_with fail
    refine (pianolalaw07_large.calls A0 c0 l0 false _ H0.out HA.out.1 HL0.out).mono ?_
    rintro e w1 ⟨rfl, hd⟩
    have hb := hd.below; clear hd
    have hbb := hb; clear hb
    have HB' := Aside0.mk (below_then HB.out HB.out.size hbb); clear HB; have HB := HB'; clear HB'
    have H0' := Aside0.mk (Kd.C_below H0.out hbb); clear H0; have H0 := H0'; clear H0'
    have H1' := Aside0.mk (Kd.C_below H1.out hbb); clear H1; have H1 := H1'; clear H1'
    have H3' := Aside0.mk (Kd.C_below H3.out hbb); clear H3; have H3 := H3'; clear H3'
    clear hbb
    go_wp2_with fail
    refine (pianolalaw07_large.calls A1 c1 l1 true _ H1.out HA.out.2 HL1.out).mono ?_
    rintro e w2 ⟨rfl, hd⟩
    have hb := hd.below; clear hd
    have hbb := hb; clear hb
    have HB' := Aside0.mk (below_then HB.out HB.out.size hbb); clear HB; have HB := HB'; clear HB'
    have H0' := Aside0.mk (Kd.C_below H0.out hbb); clear H0; have H0 := H0'; clear H0'
    have H1' := Aside0.mk (Kd.C_below H1.out hbb); clear H1; have H1 := H1'; clear H1'
    have H3' := Aside0.mk (Kd.C_below H3.out hbb); clear H3; have H3 := H3'; clear H3'
    clear hbb
    go_wp2_with fail
    refine (works_calls _).mono ?_
    rintro e w3 ⟨rfl, hb⟩
    have hbb := hb; clear hb
    have HB' := Aside0.mk (below_then HB.out HB.out.size hbb); clear HB; have HB := HB'; clear HB'
    have H0' := Aside0.mk (Kd.C_below H0.out hbb); clear H0; have H0 := H0'; clear H0'
    have H1' := Aside0.mk (Kd.C_below H1.out hbb); clear H1; have H1 := H1'; clear H1'
    have H3' := Aside0.mk (Kd.C_below H3.out hbb); clear H3; have H3 := H3'; clear H3'
    clear hbb
    go_wp2
    go_ret
    exact ⟨rfl, HB.out⟩
 have HL1 := Aside0.mk (show pianolalaw07_large.f l1 = some false by rw [large_f', decide_eq_false g1])
 by_cases g3 : 100 < l3.length
 · have t5 : decide ((l3.length : Int) > 100) = true := decide_eq_true (by omega)
   clear g0 g1 g3
   rcases ha with ⟨t1, t2⟩ | ⟨t1, t2⟩ <;> rcases hb with ⟨t3, t4⟩ | ⟨t3, t4⟩
   all_goals
    go_enter Try.func4, Try.ntmps4
    go_wp2_with fail
    refine (pianolalaw07_large.calls A0 c0 l0 false _ H0.out HA.out.1 HL0.out).mono ?_
    rintro e w1 ⟨rfl, hd⟩
    have hb := hd.below; clear hd
    have hbb := hb; clear hb
    have HB' := Aside0.mk (below_then HB.out HB.out.size hbb); clear HB; have HB := HB'; clear HB'
    have H0' := Aside0.mk (Kd.C_below H0.out hbb); clear H0; have H0 := H0'; clear H0'
    have H1' := Aside0.mk (Kd.C_below H1.out hbb); clear H1; have H1 := H1'; clear H1'
    have H3' := Aside0.mk (Kd.C_below H3.out hbb); clear H3; have H3 := H3'; clear H3'
    clear hbb
    go_wp2_with fail
    refine (pianolalaw07_large.calls A1 c1 l1 false _ H1.out HA.out.2 HL1.out).mono ?_
    rintro e w2 ⟨rfl, hd⟩
    have hb := hd.below; clear hd
    have hbb := hb; clear hb
    have HB' := Aside0.mk (below_then HB.out HB.out.size hbb); clear HB; have HB := HB'; clear HB'
    have H0' := Aside0.mk (Kd.C_below H0.out hbb); clear H0; have H0 := H0'; clear H0'
    have H1' := Aside0.mk (Kd.C_below H1.out hbb); clear H1; have H1 := H1'; clear H1'
    have H3' := Aside0.mk (Kd.C_below H3.out hbb); clear H3; have H3 := H3'; clear H3'
    clear hbb
    go_wp2_with fail
    refine (works_calls _).mono ?_
    rintro e w3 ⟨rfl, hb⟩
    have hbb := hb; clear hb
    have HB' := Aside0.mk (below_then HB.out HB.out.size hbb); clear HB; have HB := HB'; clear HB'
    have H0' := Aside0.mk (Kd.C_below H0.out hbb); clear H0; have H0 := H0'; clear H0'
    have H1' := Aside0.mk (Kd.C_below H1.out hbb); clear H1; have H1 := H1'; clear H1'
    have H3' := Aside0.mk (Kd.C_below H3.out hbb); clear H3; have H3 := H3'; clear H3'
    clear hbb
    go_wp2
    go_ret
    exact ⟨rfl, HB.out⟩
 have t5 : decide ((l3.length : Int) > 100) = false := decide_eq_false (by omega)
 have HLE := Aside0.mk (show l0.length ≤ 60 ∧ l1.length ≤ 60 ∧ l3.length ≤ 100 by omega)
 clear g0 g1 g3
 obtain ⟨ee, kb, lr, hRB, hBA⟩ := barrier_any l0 l1 hh
 obtain ⟨r, hV⟩ : ∃ t, align_Verify.f l0 l1 hh l3 = some t := ⟨_, rfl⟩
 have hV' := refVerify_f l0 l1 hh l3 8000 (by have := HLE.out; omega) (by have := HLE.out; omega)
 rw [hV] at hV'
 obtain ⟨x, hx⟩ : ∃ x, l0.map ev = x := ⟨_, rfl⟩
 obtain ⟨y, hy⟩ : ∃ y, l1.map ev = y := ⟨_, rfl⟩
 obtain ⟨z, hz⟩ : ∃ z, l3.map pr = z := ⟨_, rfl⟩
 rw [hx, hy] at hRB
 rw [hx, hy, hz] at hV'
 have HX := Aside0.mk hx
 have HY := Aside0.mk hy
 have HZ := Aside0.mk hz
 have HRB := Aside0.mk hRB
 have HBA := Aside0.mk hBA
 have HF := Aside0.mk (And.intro hV hV')
 clear hx hy hz hRB hBA hV hV'
 rcases ha with ⟨t1, t2⟩ | ⟨t1, t2⟩ <;> rcases hb with ⟨t3, t4⟩ | ⟨t3, t4⟩
 all_goals
  go_enter Try.func4, Try.ntmps4
  go_wp2_with fail
  refine (pianolalaw07_large.calls A0 c0 l0 false _ H0.out HA.out.1 HL0.out).mono ?_
  rintro e w1 ⟨rfl, hd⟩
  have hb := hd.below; clear hd
  have hbb := hb; clear hb
  have HB' := Aside0.mk (below_then HB.out HB.out.size hbb); clear HB; have HB := HB'; clear HB'
  have H0' := Aside0.mk (Kd.C_below H0.out hbb); clear H0; have H0 := H0'; clear H0'
  have H1' := Aside0.mk (Kd.C_below H1.out hbb); clear H1; have H1 := H1'; clear H1'
  have H3' := Aside0.mk (Kd.C_below H3.out hbb); clear H3; have H3 := H3'; clear H3'
  clear hbb
  go_wp2_with fail
  refine (pianolalaw07_large.calls A1 c1 l1 false _ H1.out HA.out.2 HL1.out).mono ?_
  rintro e w2 ⟨rfl, hd⟩
  have hb := hd.below; clear hd
  have hbb := hb; clear hb
  have HB' := Aside0.mk (below_then HB.out HB.out.size hbb); clear HB; have HB := HB'; clear HB'
  have H0' := Aside0.mk (Kd.C_below H0.out hbb); clear H0; have H0 := H0'; clear H0'
  have H1' := Aside0.mk (Kd.C_below H1.out hbb); clear H1; have H1 := H1'; clear H1'
  have H3' := Aside0.mk (Kd.C_below H3.out hbb); clear H3; have H3 := H3'; clear H3'
  clear hbb
  go_wp2_with fail
  refine (pianolalaw07_given_calls A0 c0 l0 _ H0.out HA.out.1 (by have := HLE.out; omega)).mono ?_
  rintro e w3 ⟨v, rfl, hR, hb⟩
  have hbb := hb; clear hb
  have HB' := Aside0.mk (below_then HB.out HB.out.size hbb); clear HB; have HB := HB'; clear HB'
  have H0' := Aside0.mk (Kd.C_below H0.out hbb); clear H0; have H0 := H0'; clear H0'
  have H1' := Aside0.mk (Kd.C_below H1.out hbb); clear H1; have H1 := H1'; clear H1'
  have H3' := Aside0.mk (Kd.C_below H3.out hbb); clear H3; have H3 := H3'; clear H3'
  clear hbb
  rw [HX.out] at hR
  obtain ⟨Ax, cx, rfl, hcx, hCx⟩ := Kd.R_reads hR
  clear hR
  have HCx := Aside0.mk hCx; clear hCx
  go_wp2_with fail
  refine (pianolalaw07_given_calls A1 c1 l1 _ H1.out HA.out.2 (by have := HLE.out; omega)).mono ?_
  rintro e w4 ⟨v, rfl, hR, hb⟩
  have hbb := hb; clear hb
  have HB' := Aside0.mk (below_then HB.out HB.out.size hbb); clear HB; have HB := HB'; clear HB'
  have H0' := Aside0.mk (Kd.C_below H0.out hbb); clear H0; have H0 := H0'; clear H0'
  have H1' := Aside0.mk (Kd.C_below H1.out hbb); clear H1; have H1 := H1'; clear H1'
  have H3' := Aside0.mk (Kd.C_below H3.out hbb); clear H3; have H3 := H3'; clear H3'
  have HCx' := Aside0.mk (Kd.C_below HCx.out hbb); clear HCx; have HCx := HCx'; clear HCx'
  clear hbb
  rw [HY.out] at hR
  obtain ⟨Ay, cy, rfl, hcy, hCy⟩ := Kd.R_reads hR
  clear hR
  have HCy := Aside0.mk hCy; clear hCy
  go_wp2_with fail
  refine (HBA.out A0 c0 A1 c1 _ H0.out HA.out.1 H1.out HA.out.2).mono ?_
  rintro e w5 ⟨hb, hway⟩
  have hbb := hb; clear hb
  have HB' := Aside0.mk (below_then HB.out HB.out.size hbb); clear HB; have HB := HB'; clear HB'
  have H0' := Aside0.mk (Kd.C_below H0.out hbb); clear H0; have H0 := H0'; clear H0'
  have H1' := Aside0.mk (Kd.C_below H1.out hbb); clear H1; have H1 := H1'; clear H1'
  have H3' := Aside0.mk (Kd.C_below H3.out hbb); clear H3; have H3 := H3'; clear H3'
  have HCx' := Aside0.mk (Kd.C_below HCx.out hbb); clear HCx; have HCx := HCx'; clear HCx'
  have HCy' := Aside0.mk (Kd.C_below HCy.out hbb); clear HCy; have HCy := HCy'; clear HCy'
  clear hbb
  rcases hway with ⟨ez, v, l, rfl, hR, hbv, hll⟩ | ⟨ez, rfl⟩
  · subst ez
    have HBV := Aside0.mk hbv
    have HLL := Aside0.mk hll
    clear hbv hll
    obtain ⟨Ac, cc, rfl, hcc, hCc⟩ := Kd.R_reads hR
    clear hR
    have HCc := Aside0.mk hCc; clear hCc
    go_wp2_with fail
    refine (pianolaref07_Barrier.calls kb Ax cx x Ay cy y hh lr 0 _ HCx.out hcx HCy.out hcy HRB.out).mono ?_
    rintro e w6 ⟨v, rfl, hR, hb⟩
    have hbb := hb; clear hb
    have HB' := Aside0.mk (below_then HB.out HB.out.size hbb); clear HB; have HB := HB'; clear HB'
    have H0' := Aside0.mk (Kd.C_below H0.out hbb); clear H0; have H0 := H0'; clear H0'
    have H1' := Aside0.mk (Kd.C_below H1.out hbb); clear H1; have H1 := H1'; clear H1'
    have H3' := Aside0.mk (Kd.C_below H3.out hbb); clear H3; have H3 := H3'; clear H3'
    have HCx' := Aside0.mk (Kd.C_below HCx.out hbb); clear HCx; have HCx := HCx'; clear HCx'
    have HCy' := Aside0.mk (Kd.C_below HCy.out hbb); clear HCy; have HCy := HCy'; clear HCy'
    have HCc' := Aside0.mk (Kd.C_below HCc.out hbb); clear HCc; have HCc := HCc'; clear HCc'
    clear hbb
    obtain ⟨Ar, cr, rfl, hcr, hCr⟩ := Kd.R_reads hR
    clear hR
    have HCr := Aside0.mk hCr; clear hCr
    go_wp2_with fail
    refine (pianolalaw07_listed_calls Ac cc l _ HCc.out hcc (Nat.le_trans HLL.out (by decide))).mono ?_
    rintro e w7 ⟨v, rfl, hR, hb⟩
    have hbb := hb; clear hb
    have HB' := Aside0.mk (below_then HB.out HB.out.size hbb); clear HB; have HB := HB'; clear HB'
    have H0' := Aside0.mk (Kd.C_below H0.out hbb); clear H0; have H0 := H0'; clear H0'
    have H1' := Aside0.mk (Kd.C_below H1.out hbb); clear H1; have H1 := H1'; clear H1'
    have H3' := Aside0.mk (Kd.C_below H3.out hbb); clear H3; have H3 := H3'; clear H3'
    have HCx' := Aside0.mk (Kd.C_below HCx.out hbb); clear HCx; have HCx := HCx'; clear HCx'
    have HCy' := Aside0.mk (Kd.C_below HCy.out hbb); clear HCy; have HCy := HCy'; clear HCy'
    have HCc' := Aside0.mk (Kd.C_below HCc.out hbb); clear HCc; have HCc := HCc'; clear HCc'
    clear hbb
    obtain ⟨yl, hyl⟩ : ∃ y, l.map pr = y := ⟨_, rfl⟩
    rw [hyl] at hR
    have HRV := Aside0.mk (show pianolaref07_Verify.f 8000 x y hh yl = some 0 by rw [← hyl, ← HX.out, ← HY.out, refVerify_f _ _ _ _ _ (by have := HLL.out; omega) (by have := HLL.out; omega)]; exact HBV.out)
    clear hyl
    obtain ⟨Al, cl, rfl, hcl, hCl⟩ := Kd.R_reads hR
    clear hR
    have HCl := Aside0.mk hCl; clear hCl
    go_wp2_with fail
    refine (pianolaref07_Verify.calls 8000 Ax cx x Ay cy y hh Al cl yl 0 _ HCx.out hcx HCy.out hcy HCl.out hcl HRV.out).mono ?_
    rintro e w8 ⟨rfl, hb⟩
    have hbb := hb; clear hb
    have HB' := Aside0.mk (below_then HB.out HB.out.size hbb); clear HB; have HB := HB'; clear HB'
    have H0' := Aside0.mk (Kd.C_below H0.out hbb); clear H0; have H0 := H0'; clear H0'
    have H1' := Aside0.mk (Kd.C_below H1.out hbb); clear H1; have H1 := H1'; clear H1'
    have H3' := Aside0.mk (Kd.C_below H3.out hbb); clear H3; have H3 := H3'; clear H3'
    have HCx' := Aside0.mk (Kd.C_below HCx.out hbb); clear HCx; have HCx := HCx'; clear HCx'
    have HCy' := Aside0.mk (Kd.C_below HCy.out hbb); clear HCy; have HCy := HCy'; clear HCy'
    have HCc' := Aside0.mk (Kd.C_below HCc.out hbb); clear HCc; have HCc := HCc'; clear HCc'
    have HCl' := Aside0.mk (Kd.C_below HCl.out hbb); clear HCl; have HCl := HCl'; clear HCl'
    clear hbb
    go_wp2_with fail
    refine (align_Verify.calls A0 c0 l0 A1 c1 l1 hh A3 c3 l3 r _ H0.out HA.out.1 H1.out HA.out.2 H3.out HA3.out (by have := HLE.out; omega) HF.out.1).mono ?_
    rintro e w9 ⟨rfl, hb⟩
    have hbb := hb; clear hb
    have HB' := Aside0.mk (below_then HB.out HB.out.size hbb); clear HB; have HB := HB'; clear HB'
    have H0' := Aside0.mk (Kd.C_below H0.out hbb); clear H0; have H0 := H0'; clear H0'
    have H1' := Aside0.mk (Kd.C_below H1.out hbb); clear H1; have H1 := H1'; clear H1'
    have H3' := Aside0.mk (Kd.C_below H3.out hbb); clear H3; have H3 := H3'; clear H3'
    have HCx' := Aside0.mk (Kd.C_below HCx.out hbb); clear HCx; have HCx := HCx'; clear HCx'
    have HCy' := Aside0.mk (Kd.C_below HCy.out hbb); clear HCy; have HCy := HCy'; clear HCy'
    have HCc' := Aside0.mk (Kd.C_below HCc.out hbb); clear HCc; have HCc := HCc'; clear HCc'
    have HCl' := Aside0.mk (Kd.C_below HCl.out hbb); clear HCl; have HCl := HCl'; clear HCl'
    clear hbb
    go_wp2_with fail
    refine (pianolalaw07_listed_calls A3 c3 l3 _ H3.out HA3.out (by have := HLE.out; omega)).mono ?_
    rintro e w10 ⟨v, rfl, hR, hb⟩
    have hbb := hb; clear hb
    have HB' := Aside0.mk (below_then HB.out HB.out.size hbb); clear HB; have HB := HB'; clear HB'
    have H0' := Aside0.mk (Kd.C_below H0.out hbb); clear H0; have H0 := H0'; clear H0'
    have H1' := Aside0.mk (Kd.C_below H1.out hbb); clear H1; have H1 := H1'; clear H1'
    have H3' := Aside0.mk (Kd.C_below H3.out hbb); clear H3; have H3 := H3'; clear H3'
    have HCx' := Aside0.mk (Kd.C_below HCx.out hbb); clear HCx; have HCx := HCx'; clear HCx'
    have HCy' := Aside0.mk (Kd.C_below HCy.out hbb); clear HCy; have HCy := HCy'; clear HCy'
    have HCc' := Aside0.mk (Kd.C_below HCc.out hbb); clear HCc; have HCc := HCc'; clear HCc'
    have HCl' := Aside0.mk (Kd.C_below HCl.out hbb); clear HCl; have HCl := HCl'; clear HCl'
    clear hbb
    rw [HZ.out] at hR
    obtain ⟨Az, cz, rfl, hcz, hCz⟩ := Kd.R_reads hR
    clear hR
    have HCz := Aside0.mk hCz; clear hCz
    go_wp2_with fail
    refine (pianolaref07_Verify.calls 8000 Ax cx x Ay cy y hh Az cz z r _ HCx.out hcx HCy.out hcy HCz.out hcz HF.out.2).mono ?_
    rintro e w11 ⟨rfl, hb⟩
    have hbb := hb; clear hb
    have HB' := Aside0.mk (below_then HB.out HB.out.size hbb); clear HB; have HB := HB'; clear HB'
    have H0' := Aside0.mk (Kd.C_below H0.out hbb); clear H0; have H0 := H0'; clear H0'
    have H1' := Aside0.mk (Kd.C_below H1.out hbb); clear H1; have H1 := H1'; clear H1'
    have H3' := Aside0.mk (Kd.C_below H3.out hbb); clear H3; have H3 := H3'; clear H3'
    have HCx' := Aside0.mk (Kd.C_below HCx.out hbb); clear HCx; have HCx := HCx'; clear HCx'
    have HCy' := Aside0.mk (Kd.C_below HCy.out hbb); clear HCy; have HCy := HCy'; clear HCy'
    have HCc' := Aside0.mk (Kd.C_below HCc.out hbb); clear HCc; have HCc := HCc'; clear HCc'
    have HCl' := Aside0.mk (Kd.C_below HCl.out hbb); clear HCl; have HCl := HCl'; clear HCl'
    have HCz' := Aside0.mk (Kd.C_below HCz.out hbb); clear HCz; have HCz := HCz'; clear HCz'
    clear hbb
    go_wp2_with fail
    refine (works_calls _).mono ?_
    rintro e w12 ⟨rfl, hb⟩
    have hbb := hb; clear hb
    have HB' := Aside0.mk (below_then HB.out HB.out.size hbb); clear HB; have HB := HB'; clear HB'
    have H0' := Aside0.mk (Kd.C_below H0.out hbb); clear H0; have H0 := H0'; clear H0'
    have H1' := Aside0.mk (Kd.C_below H1.out hbb); clear H1; have H1 := H1'; clear H1'
    have H3' := Aside0.mk (Kd.C_below H3.out hbb); clear H3; have H3 := H3'; clear H3'
    have HCx' := Aside0.mk (Kd.C_below HCx.out hbb); clear HCx; have HCx := HCx'; clear HCx'
    have HCy' := Aside0.mk (Kd.C_below HCy.out hbb); clear HCy; have HCy := HCy'; clear HCy'
    have HCc' := Aside0.mk (Kd.C_below HCc.out hbb); clear HCc; have HCc := HCc'; clear HCc'
    have HCl' := Aside0.mk (Kd.C_below HCl.out hbb); clear HCl; have HCl := HCl'; clear HCl'
    have HCz' := Aside0.mk (Kd.C_below HCz.out hbb); clear HCz; have HCz := HCz'; clear HCz'
    clear hbb
    go_wp2
    go_ret
    exact ⟨rfl, HB.out⟩
  · have b1 : (ee == 0) = false := beq_false_of_ne ez
    have b2 : (ee != 0) = true := by simp [ez]
    have b3 : decide (ee = 0) = false := decide_eq_false ez
    go_wp2_with fail
    refine (pianolaref07_Barrier.calls kb Ax cx x Ay cy y hh lr ee _ HCx.out hcx HCy.out hcy HRB.out).mono ?_
    rintro e w6 ⟨v, rfl, hR, hb⟩
    have hbb := hb; clear hb
    have HB' := Aside0.mk (below_then HB.out HB.out.size hbb); clear HB; have HB := HB'; clear HB'
    have H0' := Aside0.mk (Kd.C_below H0.out hbb); clear H0; have H0 := H0'; clear H0'
    have H1' := Aside0.mk (Kd.C_below H1.out hbb); clear H1; have H1 := H1'; clear H1'
    have H3' := Aside0.mk (Kd.C_below H3.out hbb); clear H3; have H3 := H3'; clear H3'
    have HCx' := Aside0.mk (Kd.C_below HCx.out hbb); clear HCx; have HCx := HCx'; clear HCx'
    have HCy' := Aside0.mk (Kd.C_below HCy.out hbb); clear HCy; have HCy := HCy'; clear HCy'
    clear hbb
    obtain ⟨Ar, cr, rfl, hcr, hCr⟩ := Kd.R_reads hR
    clear hR
    have HCr := Aside0.mk hCr; clear hCr
    go_wp2_with fail
    refine (align_Verify.calls A0 c0 l0 A1 c1 l1 hh A3 c3 l3 r _ H0.out HA.out.1 H1.out HA.out.2 H3.out HA3.out (by have := HLE.out; omega) HF.out.1).mono ?_
    rintro e w7 ⟨rfl, hb⟩
    have hbb := hb; clear hb
    have HB' := Aside0.mk (below_then HB.out HB.out.size hbb); clear HB; have HB := HB'; clear HB'
    have H0' := Aside0.mk (Kd.C_below H0.out hbb); clear H0; have H0 := H0'; clear H0'
    have H1' := Aside0.mk (Kd.C_below H1.out hbb); clear H1; have H1 := H1'; clear H1'
    have H3' := Aside0.mk (Kd.C_below H3.out hbb); clear H3; have H3 := H3'; clear H3'
    have HCx' := Aside0.mk (Kd.C_below HCx.out hbb); clear HCx; have HCx := HCx'; clear HCx'
    have HCy' := Aside0.mk (Kd.C_below HCy.out hbb); clear HCy; have HCy := HCy'; clear HCy'
    clear hbb
    go_wp2_with fail
    refine (pianolalaw07_listed_calls A3 c3 l3 _ H3.out HA3.out (by have := HLE.out; omega)).mono ?_
    rintro e w8 ⟨v, rfl, hR, hb⟩
    have hbb := hb; clear hb
    have HB' := Aside0.mk (below_then HB.out HB.out.size hbb); clear HB; have HB := HB'; clear HB'
    have H0' := Aside0.mk (Kd.C_below H0.out hbb); clear H0; have H0 := H0'; clear H0'
    have H1' := Aside0.mk (Kd.C_below H1.out hbb); clear H1; have H1 := H1'; clear H1'
    have H3' := Aside0.mk (Kd.C_below H3.out hbb); clear H3; have H3 := H3'; clear H3'
    have HCx' := Aside0.mk (Kd.C_below HCx.out hbb); clear HCx; have HCx := HCx'; clear HCx'
    have HCy' := Aside0.mk (Kd.C_below HCy.out hbb); clear HCy; have HCy := HCy'; clear HCy'
    clear hbb
    rw [HZ.out] at hR
    obtain ⟨Az, cz, rfl, hcz, hCz⟩ := Kd.R_reads hR
    clear hR
    have HCz := Aside0.mk hCz; clear hCz
    go_wp2_with fail
    refine (pianolaref07_Verify.calls 8000 Ax cx x Ay cy y hh Az cz z r _ HCx.out hcx HCy.out hcy HCz.out hcz HF.out.2).mono ?_
    rintro e w9 ⟨rfl, hb⟩
    have hbb := hb; clear hb
    have HB' := Aside0.mk (below_then HB.out HB.out.size hbb); clear HB; have HB := HB'; clear HB'
    have H0' := Aside0.mk (Kd.C_below H0.out hbb); clear H0; have H0 := H0'; clear H0'
    have H1' := Aside0.mk (Kd.C_below H1.out hbb); clear H1; have H1 := H1'; clear H1'
    have H3' := Aside0.mk (Kd.C_below H3.out hbb); clear H3; have H3 := H3'; clear H3'
    have HCx' := Aside0.mk (Kd.C_below HCx.out hbb); clear HCx; have HCx := HCx'; clear HCx'
    have HCy' := Aside0.mk (Kd.C_below HCy.out hbb); clear HCy; have HCy := HCy'; clear HCy'
    have HCz' := Aside0.mk (Kd.C_below HCz.out hbb); clear HCz; have HCz := HCz'; clear HCz'
    clear hbb
    go_wp2_with fail
    refine (works_calls _).mono ?_
    rintro e w10 ⟨rfl, hb⟩
    have hbb := hb; clear hb
    have HB' := Aside0.mk (below_then HB.out HB.out.size hbb); clear HB; have HB := HB'; clear HB'
    have H0' := Aside0.mk (Kd.C_below H0.out hbb); clear H0; have H0 := H0'; clear H0'
    have H1' := Aside0.mk (Kd.C_below H1.out hbb); clear H1; have H1 := H1'; clear H1'
    have H3' := Aside0.mk (Kd.C_below H3.out hbb); clear H3; have H3 := H3'; clear H3'
    have HCx' := Aside0.mk (Kd.C_below HCx.out hbb); clear HCx; have HCx := HCx'; clear HCx'
    have HCy' := Aside0.mk (Kd.C_below HCy.out hbb); clear HCy; have HCy := HCy'; clear HCy'
    have HCz' := Aside0.mk (Kd.C_below HCz.out hbb); clear HCz; have HCz := HCz'; clear HCz'
    clear hbb
    go_wp2
    go_ret
    exact ⟨rfl, HB.out⟩

end Go.Proofs.Ytkocigldchiifaa.H
