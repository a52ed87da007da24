/- Texts TA, U1 of this chapter, one behind the other. -/
import Derived.ChangeSlices
import Derived.Laws.IdiomArrays
import Derived.Lib.SmallJoins
import Derived.OpenShut
import Derived.WideShapes
import Derived.Test.YthddeillkdediaaXG
import Derived.Test.YthddeillkdediaaXH
import Derived.Test.YthddeillkdediaaXJ

/- Arguments of chapter 10's laws, opened. -/
namespace Go.Proofs.Ythddeillkdediaa.H
open Go.RowKit Go.Proofs.YthddeillkdediaaW.PrintWords Go.Proofs.YthddeillkdediaaW.PrintLast Go.Proofs.YthddeillkdediaaW.PrintMore
open Go.Shelf Go.Proofs.Ythddeillkdediaa.QA
open Go.ChangeShapes Go.WideShapes Go.Joins
set_option linter.unusedVariables false
set_option linter.unusedSimpArgs false


set_option maxRecDepth 100000 in
theorem trod_nums {H : Type} {enc : TypeId × Value → H} {W : World} {base : Nat} {held : Bool} {fuel : Nat} {v : Value} {x : DataW H × List MemPlace} {t e : TypeId} {k : IntKind}
    (ut : Try.prog.underlying t = some (.slice e)) (ue : Try.prog.underlying e = some (.int k)) (ce : Try.prog.cellsOf e = 1) (hf : DataW.trod enc Try.prog W base (fun _ => true) held fuel t [v] = some x) :
    ∃ (A : Option Addr) (c : Nat) (l : List Int), v = .slice A l.length c ∧ l.length ≤ c ∧ Kd.C (Kd.int k) W A l.length l ∧ ∀ n ∈ l, (Lit.int k n).wf = true := by
  have key : ∃ (A : Option Addr) (len cap : Nat) (zs : List Int), v = .slice A len cap ∧ ((A = none ∧ len = 0 ∧ cap = 0 ∧ zs = []) ∨ ∃ x, A = some x ∧ len ≤ cap ∧ cap ≤ maxLen ∧ zs.length = cap ∧ (∀ i, i < zs.length → W.cell? (x.add i) = some (.int k (zs.getD i 0))) ∧ ∀ n ∈ zs, (Lit.int k n).wf = true) := by
    rcases open_ints ut ue ce hf with ⟨hcs, _⟩ | ⟨x, l, c, zs, hcs, _, hl, hm, hz, _, hcell, hwz⟩
    · simp at hcs
      subst hcs
      exact ⟨none, 0, 0, [], rfl, .inl ⟨rfl, rfl, rfl, rfl⟩⟩
    · simp at hcs
      subst hcs
      exact ⟨_, _, _, zs, rfl, .inr ⟨_, rfl, hl, hm, by simpa using hz, hcell, hwz⟩⟩
  obtain ⟨A, len, cap, zs, rfl, w⟩ := key
  obtain ⟨l, rfl, hr, hm, hw, hc⟩ := ReadsInt.ofRowC w
  exact ⟨A, cap, l, rfl, hc, Kd.C_of_reads (d := (0 : Int)) (h1 := fun _ => rfl) hr, hw⟩
set_option maxRecDepth 100000 in
theorem open_ints1 {H : Type} {enc : TypeId × Value → H} {W : World} {r : Reach} {b0 : Nat} {v : Value} {d : DataW H} {p : List MemPlace}
    (hv : Value.okWide Try.prog W r b0 22 v) (h : DataW.Trod enc Try.prog W 0 (fun _ => true) true 22 v d p) :
    ∃ (A : Option Addr) (c : Nat) (l : List Int), v = .slice A l.length c ∧ l.length ≤ c ∧ Kd.C (Kd.int .i64) W A l.length l ∧ ∀ n ∈ l, (Lit.int .i64 n).wf = true := by
  obtain ⟨A, len, cap, rfl⟩ := okWide_slice Try.underlying22 hv
  obtain ⟨fuel, hf⟩ := h
  exact trod_nums (v := .slice A len cap) Try.underlying22 Try.underlying3 (by kernel_rfl) (by simpa [Value.cells] using hf)
end Go.Proofs.Ythddeillkdediaa.H

/- pianolalaw10.HandChances. -/
namespace Go.Proofs.Ythddeillkdediaa.H
open Go.RowKit Go.Proofs.YthddeillkdediaaW.PrintWords Go.Proofs.YthddeillkdediaaW.PrintLast Go.Proofs.YthddeillkdediaaW.PrintMore
open Go.Shelf Go.Proofs.Ythddeillkdediaa.QA
set_option linter.unusedVariables false
set_option linter.unusedSimpArgs false


set_option maxRecDepth 100000 in
set_option maxHeartbeats 4000000 in
theorem handChances_calls (A0 : Option Addr) (c0 : Nat) (l0 : List Int) (A1 : Option Addr) (c1 : Nat) (l1 : List Int) (w : World) (hC0 : Kd.C (Kd.int .i64) w A0 l0.length l0) (hc0 : l0.length ≤ c0) (hC1 : Kd.C (Kd.int .i64) w A1 l1.length l1) (hc1 : l1.length ≤ c1) :
  Calls Try.prog 4 #[.slice A0 l0.length c0, .slice A1 l1.length c1] w fun e w' => e = .returned (.bool true) ∧ Below w.heap.size w w' := by
  have hu34 := Try.underlying34
  have H0 := Aside0.mk hC0
  have H1 := Aside0.mk hC1
  have HA := Aside0.mk (And.intro hc0 hc1)
  have HB := Aside0.mk (Below.refl w.heap.size w)
  clear hC0 hC1 hc0 hc1
  by_cases g0 : 40 < l0.length
  · have z0 : decide (40 < (l0.length : Int)) = true := decide_eq_true (by omega)
    clear g0
    go_enter Try.func4, Try.ntmps4
    go_wp2_with fail
    refine (works_calls _).mono ?_
    rintro e w1 ⟨rfl, hb⟩
    have HB' := Aside0.mk (below_then HB.out HB.out.size hb); clear HB; have HB := HB'; clear HB'
    clear hb
    go_wp2
    go_ret
    exact ⟨rfl, HB.out⟩
  by_cases g1 : 40 < l1.length
  · have z1 : decide (40 < (l1.length : Int)) = true := decide_eq_true (by omega)
    have z0 : decide (40 < (l0.length : Int)) = false := decide_eq_false (by omega)
    clear g0 g1
    go_enter Try.func4, Try.ntmps4
    go_wp2_with fail
    refine (works_calls _).mono ?_
    rintro e w1 ⟨rfl, hb⟩
    have HB' := Aside0.mk (below_then HB.out HB.out.size hb); clear HB; have HB := HB'; clear HB'
    clear hb
    go_wp2
    go_ret
    exact ⟨rfl, HB.out⟩
  have z0 : decide (40 < (l0.length : Int)) = false := decide_eq_false (by omega)
  have z1 : decide (40 < (l1.length : Int)) = false := decide_eq_false (by omega)
  obtain ⟨⟨x1, x2, x3, e1⟩, hR⟩ : ∃ t, hand_Tails.f l0 l1 = some t := ⟨_, rfl⟩
  obtain ⟨⟨y1, y2, e2⟩, hS⟩ : ∃ t, hand_Chance.f l0 l1 = some t := ⟨_, rfl⟩
  obtain ⟨⟨z1, z2, z3, e3⟩, hK⟩ : ∃ t, hand_Paired.f l0 l1 = some t := ⟨_, rfl⟩
  have HF := Aside0.mk (show hand_Tails.f l0 l1 = some (x1, x2, x3, e1) ∧ pianolaref10_Tails.f 2000 l0 l1 = some (x1, x2, x3, e1) ∧ hand_Chance.f l0 l1 = some (y1, y2, e2) ∧ pianolaref10_Chance.f 2000 l0 l1 = some (y1, y2, e2) ∧ hand_Paired.f l0 l1 = some (z1, z2, z3, e3) ∧ pianolaref10_Paired.f 1000000 l0 l1 = some (z1, z2, z3, e3) by
   refine ⟨hR, ?_, hS, ?_, hK, ?_⟩
   · rw [refTails_f _ _ _ (by omega), hR]
   · rw [refChance_f _ _ _ (by omega), hS]
   · rw [refPaired_f _ _ _ (by omega), hK])
  clear hR hS hK g0 g1
  go_enter Try.func4, Try.ntmps4
  go_wp2_with fail
  refine (hand_Tails.calls A0 c0 l0 A1 c1 l1 x1 x2 x3 e1 _ H0.out HA.out.1 H1.out HA.out.2 HF.out.1).mono ?_
  rintro e w1 ⟨rfl, hb⟩
  have hbb := hb
  clear hb
  have HB' := Aside0.mk (below_then HB.out HB.out.size hbb); clear HB; have HB := HB'; clear HB'
  have H0' := Aside0.mk (Kd.C_below H0.out hbb); clear H0; have H0 := H0'; clear H0'
  have H1' := Aside0.mk (Kd.C_below H1.out hbb); clear H1; have H1 := H1'; clear H1'
  clear hbb
  go_wp2_with fail
  refine (pianolaref10_Tails.calls 2000 A0 c0 l0 A1 c1 l1 x1 x2 x3 e1 _ H0.out HA.out.1 H1.out HA.out.2 HF.out.2.1).mono ?_
  rintro e w2 ⟨rfl, hb⟩
  have hbb := hb
  clear hb
  have HB' := Aside0.mk (below_then HB.out HB.out.size hbb); clear HB; have HB := HB'; clear HB'
  have H0' := Aside0.mk (Kd.C_below H0.out hbb); clear H0; have H0 := H0'; clear H0'
  have H1' := Aside0.mk (Kd.C_below H1.out hbb); clear H1; have H1 := H1'; clear H1'
  clear hbb
  go_wp2_with fail
  refine (hand_Chance.calls A0 c0 l0 A1 c1 l1 y1 y2 e2 _ H0.out HA.out.1 H1.out HA.out.2 HF.out.2.2.1).mono ?_
  rintro e w3 ⟨rfl, hb⟩
  have hbb := hb
  clear hb
  have HB' := Aside0.mk (below_then HB.out HB.out.size hbb); clear HB; have HB := HB'; clear HB'
  have H0' := Aside0.mk (Kd.C_below H0.out hbb); clear H0; have H0 := H0'; clear H0'
  have H1' := Aside0.mk (Kd.C_below H1.out hbb); clear H1; have H1 := H1'; clear H1'
  clear hbb
  go_wp2_with fail
  refine (pianolaref10_Chance.calls 2000 A0 c0 l0 A1 c1 l1 y1 y2 e2 _ (Kd.C_below H0.out (below_alloc (Below.refl _ _) _)) HA.out.1 (Kd.C_below H1.out (below_alloc (Below.refl _ _) _)) HA.out.2 HF.out.2.2.2.1).mono ?_
  rintro e w4 ⟨rfl, hb⟩
  have hbb := below_then (below_alloc (Below.refl w3.heap.size w3) _) (by simp) hb
  have K1 := Aside0.mk (blk_below2 hb (blk_new w3 _))
  clear hb
  have HB' := Aside0.mk (below_then HB.out HB.out.size hbb); clear HB; have HB := HB'; clear HB'
  have H0' := Aside0.mk (Kd.C_below H0.out hbb); clear H0; have H0 := H0'; clear H0'
  have H1' := Aside0.mk (Kd.C_below H1.out hbb); clear H1; have H1 := H1'; clear H1'
  clear hbb
  go_wp2_with fail
  refine (hand_Paired.calls A0 c0 l0 A1 c1 l1 z1 z2 z3 e3 _ (Kd.C_below H0.out (below_alloc (Below.refl _ _) _)) HA.out.1 (Kd.C_below H1.out (below_alloc (Below.refl _ _) _)) HA.out.2 HF.out.2.2.2.2.1).mono ?_
  rintro e w5 ⟨rfl, hb⟩
  have hbb := below_then (below_alloc (Below.refl w4.heap.size w4) _) (by simp) hb
  have K2 := Aside0.mk (blk_below2 hb (blk_new w4 _))
  clear hb
  have HB' := Aside0.mk (below_then HB.out HB.out.size hbb); clear HB; have HB := HB'; clear HB'
  have H0' := Aside0.mk (Kd.C_below H0.out hbb); clear H0; have H0 := H0'; clear H0'
  have H1' := Aside0.mk (Kd.C_below H1.out hbb); clear H1; have H1 := H1'; clear H1'
  have K1' := Aside0.mk (blk_below2 hbb K1.out); clear K1; have K1 := K1'; clear K1'
  clear hbb
  go_wp2_with fail
  refine (pianolaref10_Paired.calls 1000000 A0 c0 l0 A1 c1 l1 z1 z2 z3 e3 _ (Kd.C_below H0.out (below_alloc (Below.refl _ _) _)) HA.out.1 (Kd.C_below H1.out (below_alloc (Below.refl _ _) _)) HA.out.2 HF.out.2.2.2.2.2).mono ?_
  rintro e w6 ⟨rfl, hb⟩
  have hbb := below_then (below_alloc (Below.refl w5.heap.size w5) _) (by simp) hb
  have K3 := Aside0.mk (blk_below2 hb (blk_new w5 _))
  clear hb
  have HB' := Aside0.mk (below_then HB.out HB.out.size hbb); clear HB; have HB := HB'; clear HB'
  have H0' := Aside0.mk (Kd.C_below H0.out hbb); clear H0; have H0 := H0'; clear H0'
  have H1' := Aside0.mk (Kd.C_below H1.out hbb); clear H1; have H1 := H1'; clear H1'
  have K1' := Aside0.mk (blk_below2 hbb K1.out); clear K1; have K1 := K1'; clear K1'
  have K2' := Aside0.mk (blk_below2 hbb K2.out); clear K2; have K2 := K2'; clear K2'
  clear hbb
  have a0 := (blk_cell (blk_alloc K1.out (.cells #[.int .i64 z2, .int .i64 z3] 34)) 0).trans rfl
  have a1 := (blk_cell (blk_alloc K1.out (.cells #[.int .i64 z2, .int .i64 z3] 34)) 1).trans rfl
  have b0 := (blk_cell (blk_alloc K2.out (.cells #[.int .i64 z2, .int .i64 z3] 34)) 0).trans rfl
  have b1 := (blk_cell (blk_alloc K2.out (.cells #[.int .i64 z2, .int .i64 z3] 34)) 1).trans rfl
  have c0 := (blk_cell (blk_alloc K3.out (.cells #[.int .i64 z2, .int .i64 z3] 34)) 0).trans rfl
  have c1 := (blk_cell (blk_alloc K3.out (.cells #[.int .i64 z2, .int .i64 z3] 34)) 1).trans rfl
  have d0 := (blk_cell (blk_new w6 (.cells #[.int .i64 z2, .int .i64 z3] 34)) 0).trans rfl
  have d1 := (blk_cell (blk_new w6 (.cells #[.int .i64 z2, .int .i64 z3] 34)) 1).trans rfl
  go_wp2_with fail
  refine (works_calls _).mono ?_
  rintro e wz ⟨rfl, hb⟩
  have hbb := below_then (below_alloc (Below.refl w6.heap.size w6) _) (by simp) hb
  have HB' := Aside0.mk (below_then HB.out HB.out.size hbb); clear HB; have HB := HB'; clear HB'
  clear hb hbb a0 a1 b0 b1 d0 d1
  go_wp2
  go_ret
  exact ⟨rfl, HB.out⟩

end Go.Proofs.Ythddeillkdediaa.H
