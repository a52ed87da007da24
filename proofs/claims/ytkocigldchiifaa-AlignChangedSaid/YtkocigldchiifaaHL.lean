/- pianolalaw07.works: the examples of the chapter hold. Printed by gen_works07.py of this session. -/
import Derived.Test.YtkocigldchiifaaQA4
import Derived.Test.YtkocigldchiifaaHA
import Derived.Test.YtkocigldchiifaaHB
import Derived.Test.YtkocigldchiifaaHJ
import Derived.Test.YtkocigldchiifaaHK
import Derived.Test.YtkocigldchiifaaP4
namespace Go.Proofs.Ytkocigldchiifaa.H
open Go.RowKit Go.Proofs.YtkocigldchiifaaW.PrintWords Go.Proofs.YtkocigldchiifaaW.PrintLast Go.Proofs.YtkocigldchiifaaW.PrintMore
open Go.Shelf Go.Proofs.Ytkocigldchiifaa.QA
set_option linter.unusedVariables false
set_option linter.unusedSimpArgs false

instance decS25 : DecidableEq S25 := fun x y => decidable_of_iff (x.f0 = y.f0 ∧ x.f1 = y.f1) ⟨fun h => by
  obtain ⟨a, b⟩ := x
  obtain ⟨c, d⟩ := y
  simp only at h
  rw [h.1, h.2], fun h => by rw [h]; exact ⟨rfl, rfl⟩⟩
def rA : List S59 := [⟨40, 50, 0⟩, ⟨42, 60, 10⟩, ⟨44, 70, 12⟩]
def rB : List S59 := [⟨40, 52, 0⟩, ⟨42, 60, 11⟩, ⟨42, 61, 10⟩, ⟨44, 66, 12⟩]
def rC : List S59 := [⟨40, 50, 0⟩, ⟨44, 70, 10⟩]
def rW : List S25 := [⟨0, 0⟩, ⟨1, 1⟩, ⟨1, 2⟩, ⟨2, 3⟩]
theorem C_lit (W : World) (cs : Array Value) (l : List Int) (h : cs = (l.map (Value.int .i64)).toArray) {n : Nat} (hn : n = l.length) (hm : l.length ≤ 1000) : Kd.C (Kd.int .i64) (W.alloc (.cells cs 3)) (some ⟨W.heap.size, 0, none⟩) n l := by
  subst h
  subst hn
  refine Kd.C_of_reads (d := 0) ⟨rfl, by omega, fun _ => ⟨_, rfl, fun j hj => ?_⟩⟩
  rw [add_plain, World.cell?_alloc_at _ _ _ _ rfl]
  simp [hj, List.getD_eq_getElem?_getD]
theorem ver_ok {a b : List S59} {h : Int} {l : List S25} (he : align_Check.f a b = some 0) (hb : BarOK a b h l) : align_Verify.f a b h l = some 0 := by
  unfold align_Verify.f
  rw [he]
  show some (if (0 : Int) = 0 then verF a b h l else 0) = some 0
  rw [if_pos rfl, (verF_zero a b h l).2 hb]
theorem bar_yes {a b : List S59} {hh : Int} (p : S25) (hc : Chn a b hh p) (he : endB a b p.f0 p.f1 = true) {w0 : World} {e : Ending} {w' : World} (h : BarRes a b hh w0 e w') : Below w0.heap.size w0 w' ∧ ∃ v l, e = .returned (.tuple #[v, .int .i64 0]) ∧ Kd.R k25 25 w' w0.heap.size (fun _ => True) v l ∧ BarOK a b hh l ∧ l.length ≤ 1800 := by
  obtain ⟨hb, h | ⟨_, h⟩⟩ := h
  · exact ⟨hb, h⟩
  · rw [h p hc] at he; cases he
theorem bar_no {a b : List S59} {hh : Int} (hn : ∀ p, Chn a b hh p → endB a b p.f0 p.f1 = false) {w0 : World} {e : Ending} {w' : World} (h : BarRes a b hh w0 e w') : Below w0.heap.size w0 w' ∧ e = .returned (.tuple #[.slice none 0 0, .int .i64 8]) := by
  obtain ⟨hb, ⟨v, l, _, _, h, _⟩ | ⟨h, _⟩⟩ := h
  · obtain ⟨p, h1, h2⟩ := h.chn
    rw [hn p h1] at h2; cases h2
  · exact ⟨hb, h⟩
theorem bar_AB3 (A0 : Option Addr) (c0 : Nat) (A1 : Option Addr) (c1 : Nat) (w0 : World) (hr0 : Kd.C k59 w0 A0 rA.length rA) (hc0 : rA.length ≤ c0) (hr1 : Kd.C k59 w0 A1 rB.length rB) (hc1 : rB.length ≤ c1) :
  Calls Try.prog 26 #[.slice A0 rA.length c0, .slice A1 rB.length c1, .int .i64 3] w0 fun e w' => Below w0.heap.size w0 w' ∧ ∃ v l, e = .returned (.tuple #[v, .int .i64 0]) ∧ Kd.R k25 25 w' w0.heap.size (fun _ => True) v l ∧ BarOK rA rB 3 l ∧ l.length ≤ 1800 :=
  (barrier_ok A0 c0 rA A1 c1 rB 3 w0 hr0 hc0 hr1 hc1 (by decide +kernel)).mono fun e w' h => bar_yes (a := rA) (b := rB) ⟨2, 3⟩ (.beg ⟨2, 3⟩ (by decide +kernel) (by decide +kernel)) (by decide +kernel) h
theorem bar_AC (A0 : Option Addr) (c0 : Nat) (A1 : Option Addr) (c1 : Nat) (w0 : World) (hr0 : Kd.C k59 w0 A0 rA.length rA) (hc0 : rA.length ≤ c0) (hr1 : Kd.C k59 w0 A1 rC.length rC) (hc1 : rC.length ≤ c1) :
  Calls Try.prog 26 #[.slice A0 rA.length c0, .slice A1 rC.length c1, .int .i64 999999] w0 fun e w' => Below w0.heap.size w0 w' ∧ ∃ v l, e = .returned (.tuple #[v, .int .i64 0]) ∧ Kd.R k25 25 w' w0.heap.size (fun _ => True) v l ∧ BarOK rA rC 999999 l ∧ l.length ≤ 1800 :=
  (barrier_ok A0 c0 rA A1 c1 rC 999999 w0 hr0 hc0 hr1 hc1 (by decide +kernel)).mono fun e w' h => bar_yes (a := rA) (b := rC) ⟨1, 0⟩ (.step ⟨1, 1⟩ ⟨1, 0⟩ (.beg ⟨1, 1⟩ (by decide +kernel) (by decide +kernel)) (by decide +kernel) (by decide +kernel)) (by decide +kernel) h
theorem bar_AB4 (A0 : Option Addr) (c0 : Nat) (A1 : Option Addr) (c1 : Nat) (w0 : World) (hr0 : Kd.C k59 w0 A0 rA.length rA) (hc0 : rA.length ≤ c0) (hr1 : Kd.C k59 w0 A1 rB.length rB) (hc1 : rB.length ≤ c1) :
  Calls Try.prog 26 #[.slice A0 rA.length c0, .slice A1 rB.length c1, .int .i64 4] w0 fun e w' => Below w0.heap.size w0 w' ∧ e = .returned (.tuple #[.slice none 0 0, .int .i64 8]) :=
  (barrier_ok A0 c0 rA A1 c1 rB 4 w0 hr0 hc0 hr1 hc1 (by decide +kernel)).mono fun e w' h => bar_no (a := rA) (b := rB) (closed_none [⟨0, 1⟩, ⟨0, 2⟩, ⟨0, 3⟩, ⟨1, 3⟩] (by decide +kernel) (by decide +kernel)) h
def pianolalaw07_works.f : Option Bool := some true
set_option maxHeartbeats 8000000 in
set_option maxRecDepth 100000 in
theorem works_calls (w : World) : Calls Try.prog 15 #[] w fun e w' => e = .returned (.bool true) ∧ Below w.heap.size w w' := by
  have HB := Aside0.mk (Below.refl w.heap.size w)
  have hu25 := Try.underlying25
  go_enter Try.func15, Try.ntmps15
  go_wp2_with fail
  refine (pianolalaw07_A.calls rA _ rfl).mono ?_
  rintro e w1 ⟨v, rfl, hR, hb⟩
  have hbb := hb; clear hb
  have HB' := Aside0.mk (below_then HB.out HB.out.size hbb); clear HB; have HB := HB'; clear HB'
  clear hbb
  obtain ⟨Ar1, cr1, rfl, hcr1, hCr1⟩ := Kd.R_reads hR
  clear hR
  have HCr1 := Aside0.mk hCr1; clear hCr1
  go_wp2_with fail
  refine (pianolalaw07_B.calls rB _ rfl).mono ?_
  rintro e w2 ⟨v, rfl, hR, hb⟩
  have hbb := hb; clear hb
  have HB' := Aside0.mk (below_then HB.out HB.out.size hbb); clear HB; have HB := HB'; clear HB'
  have HCr1' := Aside0.mk (Kd.C_below HCr1.out hbb); clear HCr1; have HCr1 := HCr1'; clear HCr1'
  clear hbb
  obtain ⟨Ar2, cr2, rfl, hcr2, hCr2⟩ := Kd.R_reads hR
  clear hR
  have HCr2 := Aside0.mk hCr2; clear hCr2
  go_wp2_with fail
  refine (align_Distance.calls Ar1 cr1 rA Ar2 cr2 rB 1 2 1 0 _ HCr1.out hcr1 HCr2.out hcr2 (by decide +kernel)).mono ?_
  rintro e w3 ⟨rfl, hb⟩
  have hbb := hb; clear hb
  have HB' := Aside0.mk (below_then HB.out HB.out.size hbb); clear HB; have HB := HB'; clear HB'
  clear hbb
  clear HCr1 hcr1 HCr2 hcr2
  go_wp2_with fail
  refine (pianolalaw07_A.calls rA _ rfl).mono ?_
  rintro e w4 ⟨v, rfl, hR, hb⟩
  have hbb := hb; clear hb
  have HB' := Aside0.mk (below_then HB.out HB.out.size hbb); clear HB; have HB := HB'; clear HB'
  clear hbb
  obtain ⟨Ar3, cr3, rfl, hcr3, hCr3⟩ := Kd.R_reads hR
  clear hR
  have HCr3 := Aside0.mk hCr3; clear hCr3
  go_wp2_with fail
  refine (pianolalaw07_B.calls rB _ rfl).mono ?_
  rintro e w5 ⟨v, rfl, hR, hb⟩
  have hbb := hb; clear hb
  have HB' := Aside0.mk (below_then HB.out HB.out.size hbb); clear HB; have HB := HB'; clear HB'
  have HCr3' := Aside0.mk (Kd.C_below HCr3.out hbb); clear HCr3; have HCr3 := HCr3'; clear HCr3'
  clear hbb
  obtain ⟨Ar4, cr4, rfl, hcr4, hCr4⟩ := Kd.R_reads hR
  clear hR
  have HCr4 := Aside0.mk hCr4; clear hCr4
  go_wp2_with fail
  refine (align_Gap.calls Ar3 cr3 rA Ar4 cr4 rB 4 0 _ HCr3.out hcr3 HCr4.out hcr4 (by decide +kernel)).mono ?_
  rintro e w6 ⟨rfl, hb⟩
  have hbb := hb; clear hb
  have HB' := Aside0.mk (below_then HB.out HB.out.size hbb); clear HB; have HB := HB'; clear HB'
  clear hbb
  clear HCr3 hcr3 HCr4 hcr4
  go_wp2_with fail
  refine (pianolalaw07_A.calls rA _ rfl).mono ?_
  rintro e w7 ⟨v, rfl, hR, hb⟩
  have hbb := hb; clear hb
  have HB' := Aside0.mk (below_then HB.out HB.out.size hbb); clear HB; have HB := HB'; clear HB'
  clear hbb
  obtain ⟨Ar5, cr5, rfl, hcr5, hCr5⟩ := Kd.R_reads hR
  clear hR
  have HCr5 := Aside0.mk hCr5; clear hCr5
  go_wp2_with fail
  refine (pianolalaw07_C.calls rC _ rfl).mono ?_
  rintro e w8 ⟨v, rfl, hR, hb⟩
  have hbb := hb; clear hb
  have HB' := Aside0.mk (below_then HB.out HB.out.size hbb); clear HB; have HB := HB'; clear HB'
  have HCr5' := Aside0.mk (Kd.C_below HCr5.out hbb); clear HCr5; have HCr5 := HCr5'; clear HCr5'
  clear hbb
  obtain ⟨Ar6, cr6, rfl, hcr6, hCr6⟩ := Kd.R_reads hR
  clear hR
  have HCr6 := Aside0.mk hCr6; clear hCr6
  go_wp2_with fail
  refine (align_Gap.calls Ar5 cr5 rA Ar6 cr6 rC 1000000 0 _ HCr5.out hcr5 HCr6.out hcr6 (by decide +kernel)).mono ?_
  rintro e w9 ⟨rfl, hb⟩
  have hbb := hb; clear hb
  have HB' := Aside0.mk (below_then HB.out HB.out.size hbb); clear HB; have HB := HB'; clear HB'
  clear hbb
  clear HCr5 hcr5 HCr6 hcr6
  go_wp2_with fail
  refine (pianolalaw07_A.calls rA _ rfl).mono ?_
  rintro e w10 ⟨v, rfl, hR, hb⟩
  have hbb := hb; clear hb
  have HB' := Aside0.mk (below_then HB.out HB.out.size hbb); clear HB; have HB := HB'; clear HB'
  clear hbb
  obtain ⟨Ar7, cr7, rfl, hcr7, hCr7⟩ := Kd.R_reads hR
  clear hR
  have HCr7 := Aside0.mk hCr7; clear hCr7
  go_wp2_with fail
  refine (pianolalaw07_B.calls rB _ rfl).mono ?_
  rintro e w11 ⟨v, rfl, hR, hb⟩
  have hbb := hb; clear hb
  have HB' := Aside0.mk (below_then HB.out HB.out.size hbb); clear HB; have HB := HB'; clear HB'
  have HCr7' := Aside0.mk (Kd.C_below HCr7.out hbb); clear HCr7; have HCr7 := HCr7'; clear HCr7'
  clear hbb
  obtain ⟨Ar8, cr8, rfl, hcr8, hCr8⟩ := Kd.R_reads hR
  clear hR
  have HCr8 := Aside0.mk hCr8; clear hCr8
  go_wp2_with fail
  refine (align_Walk.calls Ar7 cr7 rA Ar8 cr8 rB rW 0 _ HCr7.out hcr7 HCr8.out hcr8 (by kernel_rfl)).mono ?_
  rintro e w12 ⟨v, rfl, hR, hb⟩
  have hbb := hb; clear hb
  have HB' := Aside0.mk (below_then HB.out HB.out.size hbb); clear HB; have HB := HB'; clear HB'
  clear hbb
  obtain ⟨Awk, cwk, rfl, hcwk, hCwk⟩ := Kd.R_reads hR
  clear hR
  have HCwk := Aside0.mk hCwk; clear hCwk
  clear HCr7 hcr7 HCr8 hcr8
  go_wp2_with fail
  refine (pianolalaw07_A.calls rA _ rfl).mono ?_
  rintro e w13 ⟨v, rfl, hR, hb⟩
  have hbb := hb; clear hb
  have HB' := Aside0.mk (below_then HB.out HB.out.size hbb); clear HB; have HB := HB'; clear HB'
  have HCwk' := Aside0.mk (Kd.C_below HCwk.out hbb); clear HCwk; have HCwk := HCwk'; clear HCwk'
  clear hbb
  obtain ⟨Ar9, cr9, rfl, hcr9, hCr9⟩ := Kd.R_reads hR
  clear hR
  have HCr9 := Aside0.mk hCr9; clear hCr9
  go_wp2_with fail
  refine (pianolalaw07_B.calls rB _ rfl).mono ?_
  rintro e w14 ⟨v, rfl, hR, hb⟩
  have hbb := hb; clear hb
  have HB' := Aside0.mk (below_then HB.out HB.out.size hbb); clear HB; have HB := HB'; clear HB'
  have HCwk' := Aside0.mk (Kd.C_below HCwk.out hbb); clear HCwk; have HCwk := HCwk'; clear HCwk'
  have HCr9' := Aside0.mk (Kd.C_below HCr9.out hbb); clear HCr9; have HCr9 := HCr9'; clear HCr9'
  clear hbb
  obtain ⟨Ar10, cr10, rfl, hcr10, hCr10⟩ := Kd.R_reads hR
  clear hR
  have HCr10 := Aside0.mk hCr10; clear hCr10
  go_wp2_with fail
  refine (align_Walks.calls Ar9 cr9 rA Ar10 cr10 rB 4 1 0 _ HCr9.out hcr9 HCr10.out hcr10 (by decide +kernel)).mono ?_
  rintro e w15 ⟨rfl, hb⟩
  have hbb := hb; clear hb
  have HB' := Aside0.mk (below_then HB.out HB.out.size hbb); clear HB; have HB := HB'; clear HB'
  have HCwk' := Aside0.mk (Kd.C_below HCwk.out hbb); clear HCwk; have HCwk := HCwk'; clear HCwk'
  clear hbb
  clear HCr9 hcr9 HCr10 hcr10
  go_wp2_with fail
  refine (pianolalaw07_A.calls rA _ rfl).mono ?_
  rintro e w16 ⟨v, rfl, hR, hb⟩
  have hbb := hb; clear hb
  have HB' := Aside0.mk (below_then HB.out HB.out.size hbb); clear HB; have HB := HB'; clear HB'
  have HCwk' := Aside0.mk (Kd.C_below HCwk.out hbb); clear HCwk; have HCwk := HCwk'; clear HCwk'
  clear hbb
  obtain ⟨Ar11, cr11, rfl, hcr11, hCr11⟩ := Kd.R_reads hR
  clear hR
  have HCr11 := Aside0.mk hCr11; clear hCr11
  go_wp2_with fail
  refine (pianolalaw07_B.calls rB _ rfl).mono ?_
  rintro e w17 ⟨v, rfl, hR, hb⟩
  have hbb := hb; clear hb
  have HB' := Aside0.mk (below_then HB.out HB.out.size hbb); clear HB; have HB := HB'; clear HB'
  have HCwk' := Aside0.mk (Kd.C_below HCwk.out hbb); clear HCwk; have HCwk := HCwk'; clear HCwk'
  have HCr11' := Aside0.mk (Kd.C_below HCr11.out hbb); clear HCr11; have HCr11 := HCr11'; clear HCr11'
  clear hbb
  obtain ⟨Ar12, cr12, rfl, hcr12, hCr12⟩ := Kd.R_reads hR
  clear hR
  have HCr12 := Aside0.mk hCr12; clear hCr12
  go_wp2_with fail
  refine (align_Walks.calls Ar11 cr11 rA Ar12 cr12 rB 1000000 25 0 _ HCr11.out hcr11 HCr12.out hcr12 (by decide +kernel)).mono ?_
  rintro e w18 ⟨rfl, hb⟩
  have hbb := hb; clear hb
  have HB' := Aside0.mk (below_then HB.out HB.out.size hbb); clear HB; have HB := HB'; clear HB'
  have HCwk' := Aside0.mk (Kd.C_below HCwk.out hbb); clear HCwk; have HCwk := HCwk'; clear HCwk'
  clear hbb
  clear HCr11 hcr11 HCr12 hcr12
  go_wp2_with fail
  refine (pianolalaw07_A.calls rA _ rfl).mono ?_
  rintro e w19 ⟨v, rfl, hR, hb⟩
  have hbb := hb; clear hb
  have HB' := Aside0.mk (below_then HB.out HB.out.size hbb); clear HB; have HB := HB'; clear HB'
  have HCwk' := Aside0.mk (Kd.C_below HCwk.out hbb); clear HCwk; have HCwk := HCwk'; clear HCwk'
  clear hbb
  obtain ⟨Ar13, cr13, rfl, hcr13, hCr13⟩ := Kd.R_reads hR
  clear hR
  have HCr13 := Aside0.mk hCr13; clear hCr13
  go_wp2_with fail
  refine (pianolalaw07_B.calls rB _ rfl).mono ?_
  rintro e w20 ⟨v, rfl, hR, hb⟩
  have hbb := hb; clear hb
  have HB' := Aside0.mk (below_then HB.out HB.out.size hbb); clear HB; have HB := HB'; clear HB'
  have HCwk' := Aside0.mk (Kd.C_below HCwk.out hbb); clear HCwk; have HCwk := HCwk'; clear HCwk'
  have HCr13' := Aside0.mk (Kd.C_below HCr13.out hbb); clear HCr13; have HCr13 := HCr13'; clear HCr13'
  clear hbb
  obtain ⟨Ar14, cr14, rfl, hcr14, hCr14⟩ := Kd.R_reads hR
  clear hR
  have HCr14 := Aside0.mk hCr14; clear hCr14
  go_wp2_with fail
  refine (bar_AB3 Ar13 cr13 Ar14 cr14 _ HCr13.out hcr13 HCr14.out hcr14).mono ?_
  rintro e w21 ⟨hb, v, l1, rfl, hR, hbar1, hlen1⟩
  have hbb := hb; clear hb
  have HB' := Aside0.mk (below_then HB.out HB.out.size hbb); clear HB; have HB := HB'; clear HB'
  have HCwk' := Aside0.mk (Kd.C_below HCwk.out hbb); clear HCwk; have HCwk := HCwk'; clear HCwk'
  clear hbb
  obtain ⟨Ax1, cx1, rfl, hcx1, hCx1⟩ := Kd.R_reads hR
  clear hR
  have HCx1 := Aside0.mk hCx1; clear hCx1
  clear HCr13 hcr13 HCr14 hcr14
  have HBAR1 := Aside0.mk (And.intro hbar1 hlen1); clear hbar1 hlen1
  go_wp2_with fail
  refine (pianolalaw07_A.calls rA _ rfl).mono ?_
  rintro e w22 ⟨v, rfl, hR, hb⟩
  have hbb := hb; clear hb
  have HB' := Aside0.mk (below_then HB.out HB.out.size hbb); clear HB; have HB := HB'; clear HB'
  have HCwk' := Aside0.mk (Kd.C_below HCwk.out hbb); clear HCwk; have HCwk := HCwk'; clear HCwk'
  have HCx1' := Aside0.mk (Kd.C_below HCx1.out hbb); clear HCx1; have HCx1 := HCx1'; clear HCx1'
  clear hbb
  obtain ⟨Ar15, cr15, rfl, hcr15, hCr15⟩ := Kd.R_reads hR
  clear hR
  have HCr15 := Aside0.mk hCr15; clear hCr15
  go_wp2_with fail
  refine (pianolalaw07_C.calls rC _ rfl).mono ?_
  rintro e w23 ⟨v, rfl, hR, hb⟩
  have hbb := hb; clear hb
  have HB' := Aside0.mk (below_then HB.out HB.out.size hbb); clear HB; have HB := HB'; clear HB'
  have HCwk' := Aside0.mk (Kd.C_below HCwk.out hbb); clear HCwk; have HCwk := HCwk'; clear HCwk'
  have HCx1' := Aside0.mk (Kd.C_below HCx1.out hbb); clear HCx1; have HCx1 := HCx1'; clear HCx1'
  have HCr15' := Aside0.mk (Kd.C_below HCr15.out hbb); clear HCr15; have HCr15 := HCr15'; clear HCr15'
  clear hbb
  obtain ⟨Ar16, cr16, rfl, hcr16, hCr16⟩ := Kd.R_reads hR
  clear hR
  have HCr16 := Aside0.mk hCr16; clear hCr16
  go_wp2_with fail
  refine (bar_AC Ar15 cr15 Ar16 cr16 _ HCr15.out hcr15 HCr16.out hcr16).mono ?_
  rintro e w24 ⟨hb, v, l2, rfl, hR, hbar2, hlen2⟩
  have hbb := hb; clear hb
  have HB' := Aside0.mk (below_then HB.out HB.out.size hbb); clear HB; have HB := HB'; clear HB'
  have HCwk' := Aside0.mk (Kd.C_below HCwk.out hbb); clear HCwk; have HCwk := HCwk'; clear HCwk'
  have HCx1' := Aside0.mk (Kd.C_below HCx1.out hbb); clear HCx1; have HCx1 := HCx1'; clear HCx1'
  clear hbb
  obtain ⟨Ax2, cx2, rfl, hcx2, hCx2⟩ := Kd.R_reads hR
  clear hR
  have HCx2 := Aside0.mk hCx2; clear hCx2
  clear HCr15 hcr15 HCr16 hcr16
  have HBAR2 := Aside0.mk (And.intro hbar2 hlen2); clear hbar2 hlen2
  go_wp2_with fail
  refine (pianolalaw07_A.calls rA _ rfl).mono ?_
  rintro e w25 ⟨v, rfl, hR, hb⟩
  have hbb := hb; clear hb
  have HB' := Aside0.mk (below_then HB.out HB.out.size hbb); clear HB; have HB := HB'; clear HB'
  have HCwk' := Aside0.mk (Kd.C_below HCwk.out hbb); clear HCwk; have HCwk := HCwk'; clear HCwk'
  have HCx1' := Aside0.mk (Kd.C_below HCx1.out hbb); clear HCx1; have HCx1 := HCx1'; clear HCx1'
  have HCx2' := Aside0.mk (Kd.C_below HCx2.out hbb); clear HCx2; have HCx2 := HCx2'; clear HCx2'
  clear hbb
  obtain ⟨Ar17, cr17, rfl, hcr17, hCr17⟩ := Kd.R_reads hR
  clear hR
  have HCr17 := Aside0.mk hCr17; clear hCr17
  go_wp2_with fail
  refine (pianolalaw07_B.calls rB _ rfl).mono ?_
  rintro e w26 ⟨v, rfl, hR, hb⟩
  have hbb := hb; clear hb
  have HB' := Aside0.mk (below_then HB.out HB.out.size hbb); clear HB; have HB := HB'; clear HB'
  have HCwk' := Aside0.mk (Kd.C_below HCwk.out hbb); clear HCwk; have HCwk := HCwk'; clear HCwk'
  have HCx1' := Aside0.mk (Kd.C_below HCx1.out hbb); clear HCx1; have HCx1 := HCx1'; clear HCx1'
  have HCx2' := Aside0.mk (Kd.C_below HCx2.out hbb); clear HCx2; have HCx2 := HCx2'; clear HCx2'
  have HCr17' := Aside0.mk (Kd.C_below HCr17.out hbb); clear HCr17; have HCr17 := HCr17'; clear HCr17'
  clear hbb
  obtain ⟨Ar18, cr18, rfl, hcr18, hCr18⟩ := Kd.R_reads hR
  clear hR
  have HCr18 := Aside0.mk hCr18; clear hCr18
  go_wp2_with fail
  refine (align_Verify.calls Ar17 cr17 rA Ar18 cr18 rB 3 Ax1 cx1 l1 0 _ HCr17.out hcr17 HCr18.out hcr18 HCx1.out hcx1 (by have := HBAR1.out.2; omega) (ver_ok (by decide +kernel) HBAR1.out.1)).mono ?_
  rintro e w27 ⟨rfl, hb⟩
  have hbb := hb; clear hb
  have HB' := Aside0.mk (below_then HB.out HB.out.size hbb); clear HB; have HB := HB'; clear HB'
  have HCwk' := Aside0.mk (Kd.C_below HCwk.out hbb); clear HCwk; have HCwk := HCwk'; clear HCwk'
  have HCx2' := Aside0.mk (Kd.C_below HCx2.out hbb); clear HCx2; have HCx2 := HCx2'; clear HCx2'
  clear hbb
  clear HCr17 hcr17 HCr18 hcr18 HCx1 hcx1
  go_wp2_with fail
  refine (pianolalaw07_A.calls rA _ rfl).mono ?_
  rintro e w28 ⟨v, rfl, hR, hb⟩
  have hbb := hb; clear hb
  have HB' := Aside0.mk (below_then HB.out HB.out.size hbb); clear HB; have HB := HB'; clear HB'
  have HCwk' := Aside0.mk (Kd.C_below HCwk.out hbb); clear HCwk; have HCwk := HCwk'; clear HCwk'
  have HCx2' := Aside0.mk (Kd.C_below HCx2.out hbb); clear HCx2; have HCx2 := HCx2'; clear HCx2'
  clear hbb
  obtain ⟨Ar19, cr19, rfl, hcr19, hCr19⟩ := Kd.R_reads hR
  clear hR
  have HCr19 := Aside0.mk hCr19; clear hCr19
  go_wp2_with fail
  refine (pianolalaw07_C.calls rC _ rfl).mono ?_
  rintro e w29 ⟨v, rfl, hR, hb⟩
  have hbb := hb; clear hb
  have HB' := Aside0.mk (below_then HB.out HB.out.size hbb); clear HB; have HB := HB'; clear HB'
  have HCwk' := Aside0.mk (Kd.C_below HCwk.out hbb); clear HCwk; have HCwk := HCwk'; clear HCwk'
  have HCx2' := Aside0.mk (Kd.C_below HCx2.out hbb); clear HCx2; have HCx2 := HCx2'; clear HCx2'
  have HCr19' := Aside0.mk (Kd.C_below HCr19.out hbb); clear HCr19; have HCr19 := HCr19'; clear HCr19'
  clear hbb
  obtain ⟨Ar20, cr20, rfl, hcr20, hCr20⟩ := Kd.R_reads hR
  clear hR
  have HCr20 := Aside0.mk hCr20; clear hCr20
  go_wp2_with fail
  refine (align_Verify.calls Ar19 cr19 rA Ar20 cr20 rC 999999 Ax2 cx2 l2 0 _ HCr19.out hcr19 HCr20.out hcr20 HCx2.out hcx2 (by have := HBAR2.out.2; omega) (ver_ok (by decide +kernel) HBAR2.out.1)).mono ?_
  rintro e w30 ⟨rfl, hb⟩
  have hbb := hb; clear hb
  have HB' := Aside0.mk (below_then HB.out HB.out.size hbb); clear HB; have HB := HB'; clear HB'
  have HCwk' := Aside0.mk (Kd.C_below HCwk.out hbb); clear HCwk; have HCwk := HCwk'; clear HCwk'
  clear hbb
  clear HCr19 hcr19 HCr20 hcr20 HCx2 hcx2
  go_wp2_with fail
  refine (pianolalaw07_A.calls rA _ rfl).mono ?_
  rintro e w31 ⟨v, rfl, hR, hb⟩
  have hbb := hb; clear hb
  have HB' := Aside0.mk (below_then HB.out HB.out.size hbb); clear HB; have HB := HB'; clear HB'
  have HCwk' := Aside0.mk (Kd.C_below HCwk.out hbb); clear HCwk; have HCwk := HCwk'; clear HCwk'
  clear hbb
  obtain ⟨Ar21, cr21, rfl, hcr21, hCr21⟩ := Kd.R_reads hR
  clear hR
  have HCr21 := Aside0.mk hCr21; clear hCr21
  go_wp2_with fail
  refine (pianolalaw07_B.calls rB _ rfl).mono ?_
  rintro e w32 ⟨v, rfl, hR, hb⟩
  have hbb := hb; clear hb
  have HB' := Aside0.mk (below_then HB.out HB.out.size hbb); clear HB; have HB := HB'; clear HB'
  have HCwk' := Aside0.mk (Kd.C_below HCwk.out hbb); clear HCwk; have HCwk := HCwk'; clear HCwk'
  have HCr21' := Aside0.mk (Kd.C_below HCr21.out hbb); clear HCr21; have HCr21 := HCr21'; clear HCr21'
  clear hbb
  obtain ⟨Ar22, cr22, rfl, hcr22, hCr22⟩ := Kd.R_reads hR
  clear hR
  have HCr22 := Aside0.mk hCr22; clear hCr22
  go_wp2_with fail
  refine (bar_AB4 Ar21 cr21 Ar22 cr22 _ HCr21.out hcr21 HCr22.out hcr22).mono ?_
  rintro e w33 ⟨hb, rfl⟩
  have hbb := hb; clear hb
  have HB' := Aside0.mk (below_then HB.out HB.out.size hbb); clear HB; have HB := HB'; clear HB'
  have HCwk' := Aside0.mk (Kd.C_below HCwk.out hbb); clear HCwk; have HCwk := HCwk'; clear HCwk'
  clear hbb
  clear HCr21 hcr21 HCr22 hcr22
  go_wp2_with fail
  refine (pianolalaw07_at.calls 20 _ 8 [0, 0, 1, 1, 1, 2, 2, 3] [⟨0, 0⟩, ⟨1, 1⟩, ⟨1, 2⟩, ⟨2, 3⟩] _ (C_lit _ _ [0, 0, 1, 1, 1, 2, 2, 3] rfl rfl (by decide)) (Nat.le_refl _) (by decide +kernel)).mono ?_
  rintro e w34 ⟨v, rfl, hR, hb⟩
  have hbb := below_then (below_alloc (Below.refl w33.heap.size w33) _) (by simp) hb; clear hb
  have HB' := Aside0.mk (below_then HB.out HB.out.size hbb); clear HB; have HB := HB'; clear HB'
  have HCwk' := Aside0.mk (Kd.C_below HCwk.out hbb); clear HCwk; have HCwk := HCwk'; clear HCwk'
  clear hbb
  obtain ⟨Ap1, cp1, rfl, hcp1, hCp1⟩ := Kd.R_reads hR
  clear hR
  have HCp1 := Aside0.mk hCp1; clear hCp1
  go_wp2_with fail
  refine (pianolalaw07_pairs.calls 20 Awk cwk rW Ap1 cp1 rW true _ HCwk.out hcwk HCp1.out hcp1 (by decide +kernel)).mono ?_
  rintro e w35 ⟨rfl, hd⟩; have hb := hd.below; clear hd
  have hbb := hb; clear hb
  have HB' := Aside0.mk (below_then HB.out HB.out.size hbb); clear HB; have HB := HB'; clear HB'
  clear hbb
  clear HCwk hcwk HCp1 hcp1
  go_wp2_with fail
  refine (pianolalaw07_A.calls rA _ rfl).mono ?_
  rintro e w36 ⟨v, rfl, hR, hb⟩
  have hbb := hb; clear hb
  have HB' := Aside0.mk (below_then HB.out HB.out.size hbb); clear HB; have HB := HB'; clear HB'
  clear hbb
  obtain ⟨Ar23, cr23, rfl, hcr23, hCr23⟩ := Kd.R_reads hR
  clear hR
  have HCr23 := Aside0.mk hCr23; clear hCr23
  go_wp2_with fail
  refine (pianolalaw07_C.calls rC _ rfl).mono ?_
  rintro e w37 ⟨v, rfl, hR, hb⟩
  have hbb := hb; clear hb
  have HB' := Aside0.mk (below_then HB.out HB.out.size hbb); clear HB; have HB := HB'; clear HB'
  have HCr23' := Aside0.mk (Kd.C_below HCr23.out hbb); clear HCr23; have HCr23 := HCr23'; clear HCr23'
  clear hbb
  obtain ⟨Ar24, cr24, rfl, hcr24, hCr24⟩ := Kd.R_reads hR
  clear hR
  have HCr24 := Aside0.mk hCr24; clear hCr24
  go_wp2_with fail
  refine (pianolalaw07_at.calls 20 _ 4 [1, 0, 1, 1] [⟨1, 0⟩, ⟨1, 1⟩] _ (C_lit _ _ [1, 0, 1, 1] rfl rfl (by decide)) (Nat.le_refl _) (by decide +kernel)).mono ?_
  rintro e w38 ⟨v, rfl, hR, hb⟩
  have hbb := below_then (below_alloc (Below.refl w37.heap.size w37) _) (by simp) hb; clear hb
  have HB' := Aside0.mk (below_then HB.out HB.out.size hbb); clear HB; have HB := HB'; clear HB'
  have HCr23' := Aside0.mk (Kd.C_below HCr23.out hbb); clear HCr23; have HCr23 := HCr23'; clear HCr23'
  have HCr24' := Aside0.mk (Kd.C_below HCr24.out hbb); clear HCr24; have HCr24 := HCr24'; clear HCr24'
  clear hbb
  obtain ⟨Ap2, cp2, rfl, hcp2, hCp2⟩ := Kd.R_reads hR
  clear hR
  have HCp2 := Aside0.mk hCp2; clear hCp2
  go_wp2_with fail
  refine (align_Verify.calls Ar23 cr23 rA Ar24 cr24 rC 2 Ap2 cp2 [⟨1, 0⟩, ⟨1, 1⟩] 7 _ HCr23.out hcr23 HCr24.out hcr24 HCp2.out hcp2 (by decide) (by decide +kernel)).mono ?_
  rintro e w39 ⟨rfl, hb⟩
  have hbb := hb; clear hb
  have HB' := Aside0.mk (below_then HB.out HB.out.size hbb); clear HB; have HB := HB'; clear HB'
  clear hbb
  clear HCr23 hcr23 HCr24 hcr24 HCp2 hcp2
  go_wp2_with fail
  refine (pianolalaw07_A.calls rA _ rfl).mono ?_
  rintro e w40 ⟨v, rfl, hR, hb⟩
  have hbb := hb; clear hb
  have HB' := Aside0.mk (below_then HB.out HB.out.size hbb); clear HB; have HB := HB'; clear HB'
  clear hbb
  obtain ⟨Ar25, cr25, rfl, hcr25, hCr25⟩ := Kd.R_reads hR
  clear hR
  have HCr25 := Aside0.mk hCr25; clear hCr25
  go_wp2_with fail
  refine (pianolalaw07_C.calls rC _ rfl).mono ?_
  rintro e w41 ⟨v, rfl, hR, hb⟩
  have hbb := hb; clear hb
  have HB' := Aside0.mk (below_then HB.out HB.out.size hbb); clear HB; have HB := HB'; clear HB'
  have HCr25' := Aside0.mk (Kd.C_below HCr25.out hbb); clear HCr25; have HCr25 := HCr25'; clear HCr25'
  clear hbb
  obtain ⟨Ar26, cr26, rfl, hcr26, hCr26⟩ := Kd.R_reads hR
  clear hR
  have HCr26 := Aside0.mk hCr26; clear hCr26
  go_wp2_with fail
  refine (pianolalaw07_at.calls 20 _ 4 [0, 1, 1, 0] [⟨0, 1⟩, ⟨1, 0⟩] _ (C_lit _ _ [0, 1, 1, 0] rfl rfl (by decide)) (Nat.le_refl _) (by decide +kernel)).mono ?_
  rintro e w42 ⟨v, rfl, hR, hb⟩
  have hbb := below_then (below_alloc (Below.refl w41.heap.size w41) _) (by simp) hb; clear hb
  have HB' := Aside0.mk (below_then HB.out HB.out.size hbb); clear HB; have HB := HB'; clear HB'
  have HCr25' := Aside0.mk (Kd.C_below HCr25.out hbb); clear HCr25; have HCr25 := HCr25'; clear HCr25'
  have HCr26' := Aside0.mk (Kd.C_below HCr26.out hbb); clear HCr26; have HCr26 := HCr26'; clear HCr26'
  clear hbb
  obtain ⟨Ap3, cp3, rfl, hcp3, hCp3⟩ := Kd.R_reads hR
  clear hR
  have HCp3 := Aside0.mk hCp3; clear hCp3
  go_wp2_with fail
  refine (align_Verify.calls Ar25 cr25 rA Ar26 cr26 rC 2 Ap3 cp3 [⟨0, 1⟩, ⟨1, 0⟩] 13 _ HCr25.out hcr25 HCr26.out hcr26 HCp3.out hcp3 (by decide) (by decide +kernel)).mono ?_
  rintro e w43 ⟨rfl, hb⟩
  have hbb := hb; clear hb
  have HB' := Aside0.mk (below_then HB.out HB.out.size hbb); clear HB; have HB := HB'; clear HB'
  clear hbb
  clear HCr25 hcr25 HCr26 hcr26 HCp3 hcp3
  go_wp2_with fail
  refine (pianolalaw07_A.calls rA _ rfl).mono ?_
  rintro e w44 ⟨v, rfl, hR, hb⟩
  have hbb := hb; clear hb
  have HB' := Aside0.mk (below_then HB.out HB.out.size hbb); clear HB; have HB := HB'; clear HB'
  clear hbb
  obtain ⟨Ar27, cr27, rfl, hcr27, hCr27⟩ := Kd.R_reads hR
  clear hR
  have HCr27 := Aside0.mk hCr27; clear hCr27
  go_wp2_with fail
  refine (pianolalaw07_C.calls rC _ rfl).mono ?_
  rintro e w45 ⟨v, rfl, hR, hb⟩
  have hbb := hb; clear hb
  have HB' := Aside0.mk (below_then HB.out HB.out.size hbb); clear HB; have HB := HB'; clear HB'
  have HCr27' := Aside0.mk (Kd.C_below HCr27.out hbb); clear HCr27; have HCr27 := HCr27'; clear HCr27'
  clear hbb
  obtain ⟨Ar28, cr28, rfl, hcr28, hCr28⟩ := Kd.R_reads hR
  clear hR
  have HCr28 := Aside0.mk hCr28; clear hCr28
  go_wp2_with fail
  refine (pianolalaw07_at.calls 20 _ 6 [0, 1, 1, 1, 1, 0] [⟨0, 1⟩, ⟨1, 1⟩, ⟨1, 0⟩] _ (C_lit _ _ [0, 1, 1, 1, 1, 0] rfl rfl (by decide)) (Nat.le_refl _) (by decide +kernel)).mono ?_
  rintro e w46 ⟨v, rfl, hR, hb⟩
  have hbb := below_then (below_alloc (Below.refl w45.heap.size w45) _) (by simp) hb; clear hb
  have HB' := Aside0.mk (below_then HB.out HB.out.size hbb); clear HB; have HB := HB'; clear HB'
  have HCr27' := Aside0.mk (Kd.C_below HCr27.out hbb); clear HCr27; have HCr27 := HCr27'; clear HCr27'
  have HCr28' := Aside0.mk (Kd.C_below HCr28.out hbb); clear HCr28; have HCr28 := HCr28'; clear HCr28'
  clear hbb
  obtain ⟨Ap4, cp4, rfl, hcp4, hCp4⟩ := Kd.R_reads hR
  clear hR
  have HCp4 := Aside0.mk hCp4; clear hCp4
  go_wp2_with fail
  refine (align_Verify.calls Ar27 cr27 rA Ar28 cr28 rC 2 Ap4 cp4 [⟨0, 1⟩, ⟨1, 1⟩, ⟨1, 0⟩] 0 _ HCr27.out hcr27 HCr28.out hcr28 HCp4.out hcp4 (by decide) (by decide +kernel)).mono ?_
  rintro e w47 ⟨rfl, hb⟩
  have hbb := hb; clear hb
  have HB' := Aside0.mk (below_then HB.out HB.out.size hbb); clear HB; have HB := HB'; clear HB'
  clear hbb
  clear HCr27 hcr27 HCr28 hcr28 HCp4 hcp4
  go_wp2
  go_ret
  exact ⟨rfl, HB.out⟩

end Go.Proofs.Ytkocigldchiifaa.H
