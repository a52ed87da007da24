/- Texts TA, U0 of this chapter, one behind the other. -/
import Derived.ChangeSlices
import Derived.Laws.IdiomArrays
import Derived.Lib.SmallJoins
import Derived.OpenShut
import Derived.WideShapes
import Derived.Test.YthddeillkdediaaXG
import Derived.Test.YthddeillkdediaaXH

/- Arguments of chapter 10's laws, opened. -/
namespace Go.Proofs.Ythddeillkdediaa.H
open Go.RowKit Go.Proofs.YthddeillkdediaaW.PrintWords Go.Proofs.YthddeillkdediaaW.PrintLast Go.Proofs.YthddeillkdediaaW.PrintMore
open Go.Shelf Go.Proofs.Ythddeillkdediaa.QA
open Go.ChangeShapes Go.WideShapes Go.Joins
set_option linter.unusedVariables false
set_option linter.unusedSimpArgs false


set_option maxRecDepth 100000 in
theorem trod_nums {H : Type} {enc : TypeId × Value → H} {W : World} {base : Nat} {held : Bool} {fuel : Nat} {v : Value} {x : DataW H × List MemPlace} {t e : TypeId} {k : IntKind}
    (ut : Try.prog.underlying t = some (.slice e)) (ue : Try.prog.underlying e = some (.int k)) (ce : Try.prog.cellsOf e = 1) (hf : DataW.trod enc Try.prog W base (fun _ => true) held fuel t [v] = some x) :
    ∃ (A : Option Addr) (c : Nat) (l : List Int), v = .slice A l.length c ∧ l.length ≤ c ∧ Kd.C (Kd.int k) W A l.length l ∧ ∀ n ∈ l, (Lit.int k n).wf = true := by
  have key : ∃ (A : Option Addr) (len cap : Nat) (zs : List Int), v = .slice A len cap ∧ ((A = none ∧ len = 0 ∧ cap = 0 ∧ zs = []) ∨ ∃ x, A = some x ∧ len ≤ cap ∧ cap ≤ maxLen ∧ zs.length = cap ∧ (∀ i, i < zs.length → W.cell? (x.add i) = some (.int k (zs.getD i 0))) ∧ ∀ n ∈ zs, (Lit.int k n).wf = true) := by
    rcases open_ints ut ue ce hf with ⟨hcs, _⟩ | ⟨x, l, c, zs, hcs, _, hl, hm, hz, _, hcell, hwz⟩
    · simp at hcs
      subst hcs
      exact ⟨none, 0, 0, [], rfl, .inl ⟨rfl, rfl, rfl, rfl⟩⟩
    · simp at hcs
      subst hcs
      exact ⟨_, _, _, zs, rfl, .inr ⟨_, rfl, hl, hm, by simpa using hz, hcell, hwz⟩⟩
  obtain ⟨A, len, cap, zs, rfl, w⟩ := key
  obtain ⟨l, rfl, hr, hm, hw, hc⟩ := ReadsInt.ofRowC w
  exact ⟨A, cap, l, rfl, hc, Kd.C_of_reads (d := (0 : Int)) (h1 := fun _ => rfl) hr, hw⟩
set_option maxRecDepth 100000 in
theorem open_ints1 {H : Type} {enc : TypeId × Value → H} {W : World} {r : Reach} {b0 : Nat} {v : Value} {d : DataW H} {p : List MemPlace}
    (hv : Value.okWide Try.prog W r b0 22 v) (h : DataW.Trod enc Try.prog W 0 (fun _ => true) true 22 v d p) :
    ∃ (A : Option Addr) (c : Nat) (l : List Int), v = .slice A l.length c ∧ l.length ≤ c ∧ Kd.C (Kd.int .i64) W A l.length l ∧ ∀ n ∈ l, (Lit.int .i64 n).wf = true := by
  obtain ⟨A, len, cap, rfl⟩ := okWide_slice Try.underlying22 hv
  obtain ⟨fuel, hf⟩ := h
  exact trod_nums (v := .slice A len cap) Try.underlying22 Try.underlying3 (by kernel_rfl) (by simpa [Value.cells] using hf)
end Go.Proofs.Ythddeillkdediaa.H

/- pianolalaw10.HandRanks. -/
namespace Go.Proofs.Ythddeillkdediaa.H
open Go.RowKit Go.Proofs.YthddeillkdediaaW.PrintWords Go.Proofs.YthddeillkdediaaW.PrintLast Go.Proofs.YthddeillkdediaaW.PrintMore
open Go.Shelf Go.Proofs.Ythddeillkdediaa.QA
set_option linter.unusedVariables false
set_option linter.unusedSimpArgs false


set_option maxRecDepth 100000 in
set_option maxHeartbeats 4000000 in
theorem handRanks_calls (A0 : Option Addr) (c0 : Nat) (l0 : List Int) (A1 : Option Addr) (c1 : Nat) (l1 : List Int) (w : World) (hC0 : Kd.C (Kd.int .i64) w A0 l0.length l0) (hc0 : l0.length ≤ c0) (hC1 : Kd.C (Kd.int .i64) w A1 l1.length l1) (hc1 : l1.length ≤ c1) :
  Calls Try.prog 3 #[.slice A0 l0.length c0, .slice A1 l1.length c1] w fun e w' => e = .returned (.bool true) ∧ Below w.heap.size w w' := by
  have H0 := Aside0.mk hC0
  have H1 := Aside0.mk hC1
  have HA := Aside0.mk (And.intro hc0 hc1)
  have HB := Aside0.mk (Below.refl w.heap.size w)
  clear hC0 hC1 hc0 hc1
  by_cases g0 : 40 < l0.length
  · have z0 : decide (40 < (l0.length : Int)) = true := decide_eq_true (by omega)
    clear g0
    go_enter Try.func3, Try.ntmps3
    go_wp2_with fail
    refine (works_calls _).mono ?_
    rintro e w1 ⟨rfl, hb⟩
    have HB' := Aside0.mk (below_then HB.out HB.out.size hb); clear HB; have HB := HB'; clear HB'
    clear hb
    go_wp2
    go_ret
    exact ⟨rfl, HB.out⟩
  by_cases g1 : 40 < l1.length
  · have z1 : decide (40 < (l1.length : Int)) = true := decide_eq_true (by omega)
    have z0 : decide (40 < (l0.length : Int)) = false := decide_eq_false (by omega)
    clear g0 g1
    go_enter Try.func3, Try.ntmps3
    go_wp2_with fail
    refine (works_calls _).mono ?_
    rintro e w1 ⟨rfl, hb⟩
    have HB' := Aside0.mk (below_then HB.out HB.out.size hb); clear HB; have HB := HB'; clear HB'
    clear hb
    go_wp2
    go_ret
    exact ⟨rfl, HB.out⟩
  have z0 : decide (40 < (l0.length : Int)) = false := decide_eq_false (by omega)
  have z1 : decide (40 < (l1.length : Int)) = false := decide_eq_false (by omega)
  obtain ⟨⟨r, e1⟩, hR⟩ : ∃ t, hand_Ranks.f l0 = some t := ⟨_, rfl⟩
  obtain ⟨⟨x, e2⟩, hS⟩ : ∃ t, hand_Beats.f l0 l1 = some t := ⟨_, rfl⟩
  obtain ⟨ck, hK⟩ : ∃ t, hand_Check.f l0 = some t := ⟨_, rfl⟩
  have hrl : r.length ≤ 1000 := by
    unfold hand_Ranks.f at hR
    replace hR := Option.some.inj hR
    split at hR
    · have := congrArg (fun t => t.1.length) hR
      simp only [ranksI, List.length_map] at this
      omega
    · have := congrArg (fun t => t.1.length) hR
      simp at this
      simp [← this]
  have HF := Aside0.mk (show hand_Ranks.f l0 = some (r, e1) ∧ pianolaref10_Ranks.f 2000 l0 = some (r, e1) ∧ hand_Beats.f l0 l1 = some (x, e2) ∧ pianolaref10_Beats.f 2000 l0 l1 = some (x, e2) ∧ pianolalaw10_numbers.f 2000 r r = some true ∧ hand_Check.f l0 = some ck ∧ pianolaref10_Check.f 2000 l0 = some ck by
   refine ⟨hR, ?_, hS, ?_, ?_, hK, ?_⟩
   · rw [refRanks_f _ _ (by omega), hR]
   · rw [refBeats_f _ _ _ (by omega), hS]
   · rw [numbers_f r r 2000 hrl (by omega), decide_eq_true rfl]
   · rw [refCheck_f _ _ (by omega)]; exact hK)
  clear hR hS hK hrl g0 g1
  go_enter Try.func3, Try.ntmps3
  go_wp2_with fail
  refine (hand_Ranks.calls A0 c0 l0 r e1 _ H0.out HA.out.1 HF.out.1).mono ?_
  rintro e w1 ⟨v, rfl, hR, hb⟩
  have hbb := hb
  clear hb
  have HB' := Aside0.mk (below_then HB.out HB.out.size hbb); clear HB; have HB := HB'; clear HB'
  have H0' := Aside0.mk (Kd.C_below H0.out hbb); clear H0; have H0 := H0'; clear H0'
  have H1' := Aside0.mk (Kd.C_below H1.out hbb); clear H1; have H1 := H1'; clear H1'
  clear hbb
  obtain ⟨Ar, cr, rfl, hcr, hCr⟩ := Kd.R_reads hR
  clear hR
  have HCr := Aside0.mk hCr; clear hCr
  go_wp2_with fail
  refine (pianolaref10_Ranks.calls 2000 A0 c0 l0 r e1 _ H0.out HA.out.1 HF.out.2.1).mono ?_
  rintro e w2 ⟨v, rfl, hR, hb⟩
  have hbb := hb
  clear hb
  have HB' := Aside0.mk (below_then HB.out HB.out.size hbb); clear HB; have HB := HB'; clear HB'
  have H0' := Aside0.mk (Kd.C_below H0.out hbb); clear H0; have H0 := H0'; clear H0'
  have H1' := Aside0.mk (Kd.C_below H1.out hbb); clear H1; have H1 := H1'; clear H1'
  have HCr' := Aside0.mk (Kd.C_below HCr.out hbb); clear HCr; have HCr := HCr'; clear HCr'
  clear hbb
  obtain ⟨As, cs, rfl, hcs, hCs⟩ := Kd.R_reads hR
  clear hR
  have HCs := Aside0.mk hCs; clear hCs
  go_wp2_with fail
  refine (hand_Beats.calls A0 c0 l0 A1 c1 l1 x e2 _ H0.out HA.out.1 H1.out HA.out.2 HF.out.2.2.1).mono ?_
  rintro e w3 ⟨rfl, hb⟩
  have hbb := hb
  clear hb
  have HB' := Aside0.mk (below_then HB.out HB.out.size hbb); clear HB; have HB := HB'; clear HB'
  have H0' := Aside0.mk (Kd.C_below H0.out hbb); clear H0; have H0 := H0'; clear H0'
  have H1' := Aside0.mk (Kd.C_below H1.out hbb); clear H1; have H1 := H1'; clear H1'
  have HCr' := Aside0.mk (Kd.C_below HCr.out hbb); clear HCr; have HCr := HCr'; clear HCr'
  have HCs' := Aside0.mk (Kd.C_below HCs.out hbb); clear HCs; have HCs := HCs'; clear HCs'
  clear hbb
  go_wp2_with fail
  refine (pianolaref10_Beats.calls 2000 A0 c0 l0 A1 c1 l1 x e2 _ H0.out HA.out.1 H1.out HA.out.2 HF.out.2.2.2.1).mono ?_
  rintro e w4 ⟨rfl, hd⟩
  have hb := hd.below; clear hd
  have hbb := hb
  clear hb
  have HB' := Aside0.mk (below_then HB.out HB.out.size hbb); clear HB; have HB := HB'; clear HB'
  have H0' := Aside0.mk (Kd.C_below H0.out hbb); clear H0; have H0 := H0'; clear H0'
  have H1' := Aside0.mk (Kd.C_below H1.out hbb); clear H1; have H1 := H1'; clear H1'
  have HCr' := Aside0.mk (Kd.C_below HCr.out hbb); clear HCr; have HCr := HCr'; clear HCr'
  have HCs' := Aside0.mk (Kd.C_below HCs.out hbb); clear HCs; have HCs := HCs'; clear HCs'
  clear hbb
  go_wp2_with fail
  refine (pianolalaw10_numbers.calls 2000 Ar cr r As cs r true _ HCr.out hcr HCs.out hcs HF.out.2.2.2.2.1).mono ?_
  rintro e w5 ⟨rfl, hd⟩
  have hb := hd.below; clear hd
  have hbb := hb
  clear hb
  have HB' := Aside0.mk (below_then HB.out HB.out.size hbb); clear HB; have HB := HB'; clear HB'
  have H0' := Aside0.mk (Kd.C_below H0.out hbb); clear H0; have H0 := H0'; clear H0'
  have H1' := Aside0.mk (Kd.C_below H1.out hbb); clear H1; have H1 := H1'; clear H1'
  have HCr' := Aside0.mk (Kd.C_below HCr.out hbb); clear HCr; have HCr := HCr'; clear HCr'
  have HCs' := Aside0.mk (Kd.C_below HCs.out hbb); clear HCs; have HCs := HCs'; clear HCs'
  clear hbb
  clear HCr HCs
  go_wp2_with fail
  refine (hand_Check.calls A0 c0 l0 ck _ H0.out HA.out.1 HF.out.2.2.2.2.2.1).mono ?_
  rintro e w6 ⟨rfl, hb⟩
  have hbb := hb
  clear hb
  have HB' := Aside0.mk (below_then HB.out HB.out.size hbb); clear HB; have HB := HB'; clear HB'
  have H0' := Aside0.mk (Kd.C_below H0.out hbb); clear H0; have H0 := H0'; clear H0'
  have H1' := Aside0.mk (Kd.C_below H1.out hbb); clear H1; have H1 := H1'; clear H1'
  clear hbb
  go_wp2_with fail
  refine (pianolaref10_Check.calls 2000 A0 c0 l0 ck _ H0.out HA.out.1 HF.out.2.2.2.2.2.2).mono ?_
  rintro e w7 ⟨rfl, hd⟩
  have hb := hd.below; clear hd
  have hbb := hb
  clear hb
  have HB' := Aside0.mk (below_then HB.out HB.out.size hbb); clear HB; have HB := HB'; clear HB'
  have H0' := Aside0.mk (Kd.C_below H0.out hbb); clear H0; have H0 := H0'; clear H0'
  have H1' := Aside0.mk (Kd.C_below H1.out hbb); clear H1; have H1 := H1'; clear H1'
  clear hbb
  go_wp2_with fail
  refine (works_calls _).mono ?_
  rintro e w8 ⟨rfl, hb⟩
  have hbb := hb
  clear hb
  have HB' := Aside0.mk (below_then HB.out HB.out.size hbb); clear HB; have HB := HB'; clear HB'
  have H0' := Aside0.mk (Kd.C_below H0.out hbb); clear H0; have H0 := H0'; clear H0'
  have H1' := Aside0.mk (Kd.C_below H1.out hbb); clear H1; have H1 := H1'; clear H1'
  clear hbb
  go_wp2
  go_ret
  exact ⟨rfl, HB.out⟩

end Go.Proofs.Ythddeillkdediaa.H
