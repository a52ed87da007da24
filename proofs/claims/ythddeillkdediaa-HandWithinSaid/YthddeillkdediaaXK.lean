/- Texts TA, U8 of this chapter, one behind the other. -/
import Derived.ChangeSlices
import Derived.Laws.IdiomArrays
import Derived.Lib.SmallJoins
import Derived.OpenShut
import Derived.WideShapes
import Derived.Test.YthddeillkdediaaXG
import Derived.Test.YthddeillkdediaaXH
import Derived.Test.YthddeillkdediaaXI

/- Arguments of chapter 10's laws, opened. -/
namespace Go.Proofs.Ythddeillkdediaa.H
open Go.RowKit Go.Proofs.YthddeillkdediaaW.PrintWords Go.Proofs.YthddeillkdediaaW.PrintLast Go.Proofs.YthddeillkdediaaW.PrintMore
open Go.Shelf Go.Proofs.Ythddeillkdediaa.QA
open Go.ChangeShapes Go.WideShapes Go.Joins
set_option linter.unusedVariables false
set_option linter.unusedSimpArgs false


theorem rowsOf {α : Type} {d : Kd α} {W : World} {a : Addr} {len cap : Nat} (hl : len ≤ cap) (hm : cap ≤ maxLen) (z : α) (P : α → Prop)
  (hq : ∀ i, i < len → ∃ (x : α) (c : List Value), P x ∧ d.K W x c ∧ ∀ j u, c[j]? = some u → W.cell? (a.add (i * d.sz + j)) = some u) :
  ∃ l : List α, len = l.length ∧ Kd.C d W (some a) l.length l ∧ ∀ x ∈ l, P x := by
 have hM : maxLen = 9223372036854775807 := rfl
 obtain ⟨F, hF⟩ : ∃ F : Nat → α, ∀ i, i < len → P (F i) ∧ ∃ c, d.K W (F i) c ∧ ∀ j u, c[j]? = some u → W.cell? (a.add (i * d.sz + j)) = some u :=
  ⟨fun i => if h : i < len then (hq i h).choose else z, fun i h => by
   dsimp only
   rw [dif_pos h]
   obtain ⟨c, h1, h2, h3⟩ := (hq i h).choose_spec
   exact ⟨h1, c, h2, h3⟩⟩
 refine ⟨(List.range len).map F, by simp, ⟨rfl, by simp; omega, fun _ => ⟨a, rfl, fun j p hj => ?_⟩⟩, fun x hx => ?_⟩
 · have hjl : j < len := by have := (List.getElem?_eq_some_iff.1 hj).1; simpa using this
   rw [List.getElem?_map, List.getElem?_range hjl] at hj
   obtain rfl := Option.some.inj hj
   obtain ⟨_, c, h1, h2⟩ := hF j hjl
   exact ⟨c, d.K_len h1, h1, h2⟩
 · obtain ⟨j, hj, rfl⟩ := List.mem_map.1 hx
   exact (hF j (by have := List.mem_range.1 hj; omega)).1
theorem trod_sp {H : Type} {enc : TypeId × Value → H} {w : World} {base : Nat} {spare : Nat → Bool} {held : Bool} {fuel : Nat} {c0 c1 : Value} {x : DataW H × List MemPlace}
  (h : DataW.trod enc Try.prog w base spare held fuel 41 [c0, c1] = some x) : ∃ y : S41, [c0, c1] = [.int .i64 y.f0, .int .i64 y.f1] := by
 have e3 : Try.prog.cellsOf 3 = 1 := by kernel_rfl
 obtain ⟨xs, m, _, _, _, hl, hi⟩ := DataW.trod_struct Try.underlying41 h
 match xs, hl with
 | [y0, y1], _ =>
  have t0 := hi 0 _ rfl
  have t1 := hi 1 _ rfl
  replace t0 : DataW.trod enc Try.prog w base spare held m 3 [c0] = some y0 := by simpa [e3] using t0
  replace t1 : DataW.trod enc Try.prog w base spare held m 3 [c1] = some y1 := by simpa [e3] using t1
  obtain ⟨b0, r0, _, v0⟩ := DataW.trod_int Try.underlying3 t0
  obtain ⟨b1, r1, _, v1⟩ := DataW.trod_int Try.underlying3 t1
  simp only [List.cons.injEq, and_true] at r0 r1
  subst r0 r1
  exact ⟨⟨b0, b1⟩, rfl⟩
set_option maxRecDepth 100000 in
theorem open_spans {H : Type} {enc : TypeId × Value → H} {W : World} {r : Reach} {b0 : Nat} {v : Value} {d : DataW H} {p : List MemPlace}
  (hv : Value.okWide Try.prog W r b0 39 v) (h : DataW.Trod enc Try.prog W 0 (fun _ => true) true 39 v d p) :
  ∃ A c l, v = .slice A l.length c ∧ l.length ≤ c ∧ Kd.C k41 W A l.length l ∧ ∀ x ∈ l, True := by
 obtain ⟨A, n, c, rfl⟩ := okWide_slice Try.underlying39 hv
 have e41 : Try.prog.cellsOf 41 = 2 := by kernel_rfl
 have u39 : Try.prog.underlying 39 = some (.slice 41) := by kernel_rfl
 obtain ⟨fuel, hf⟩ := h
 rcases Go.Deep.open_slice u39 hf with ⟨hcs, _⟩ | ⟨a, len, cap, m, n3, D, Pl, hcs, _, hl, hm, hmm, _, hel⟩
 · simp [Value.cells] at hcs
   obtain ⟨rfl, rfl, rfl⟩ := hcs
   exact ⟨none, 0, [], rfl, Nat.le_refl _, Kd.C_nil _ _, fun x hx => by simp at hx⟩
 · simp [Value.cells] at hcs
   obtain ⟨rfl, rfl, rfl⟩ := hcs
   obtain ⟨l, rfl, hC, hw⟩ := rowsOf (d := k41) (W := W) (a := a) hl hm z41 (fun _ => True) (fun i hi => by
    obtain ⟨cs', k1, k2⟩ := hel i (by rw [hmm]; simp; omega)
    rw [e41] at k1
    obtain ⟨_, kl, kc⟩ := World.cells?_some k1
    match cs', kl with
    | [x0, x1], _ =>
     obtain ⟨y, hy⟩ := trod_sp k2
     refine ⟨y, [x0, x1], trivial, by rw [hy]; exact k41_mk _ _, fun j u hu => ?_⟩
     have hj : j < 2 := (List.getElem?_eq_some_iff.1 hu).1
     have := kc j hj
     rw [Addr.add_add] at this
     rw [← hu]
     exact this)
   exact ⟨some a, _, l, rfl, hl, hC, hw⟩
end Go.Proofs.Ythddeillkdediaa.H

/- pianolalaw10.HandWithin. -/
namespace Go.Proofs.Ythddeillkdediaa.H
open Go.RowKit Go.Proofs.YthddeillkdediaaW.PrintWords Go.Proofs.YthddeillkdediaaW.PrintLast Go.Proofs.YthddeillkdediaaW.PrintMore
open Go.Shelf Go.Proofs.Ythddeillkdediaa.QA
set_option linter.unusedVariables false
set_option linter.unusedSimpArgs false


set_option maxRecDepth 100000 in
set_option maxHeartbeats 4000000 in
theorem handWithin_calls (A0 : Option Addr) (c0 : Nat) (l0 : List S41) (A1 : Option Addr) (c1 : Nat) (l1 : List S41) (w : World) (hC0 : Kd.C k41 w A0 l0.length l0) (hc0 : l0.length ≤ c0) (hC1 : Kd.C k41 w A1 l1.length l1) (hc1 : l1.length ≤ c1) :
  Calls Try.prog 5 #[.slice A0 l0.length c0, .slice A1 l1.length c1] w fun e w' => e = .returned (.bool true) ∧ Below w.heap.size w w' := by
  have hu41 := Try.underlying41
  have H0 := Aside0.mk hC0
  have H1 := Aside0.mk hC1
  have HA := Aside0.mk (And.intro hc0 hc1)
  clear hC0 hC1 hc0 hc1
  by_cases g0 : 40 < l0.length
  · have z0 : decide (40 < (l0.length : Int)) = true := decide_eq_true (by omega)
    clear g0
    go_enter Try.func5, Try.ntmps5
    go_wp2_with fail
    refine (works_calls _).mono ?_
    rintro e w1 ⟨rfl, hb⟩
    go_wp2
    go_ret
    exact ⟨rfl, hb⟩
  by_cases g1 : 40 < l1.length
  · have z1 : decide (40 < (l1.length : Int)) = true := decide_eq_true (by omega)
    have z0 : decide (40 < (l0.length : Int)) = false := decide_eq_false (by omega)
    clear g0 g1
    go_enter Try.func5, Try.ntmps5
    go_wp2_with fail
    refine (works_calls _).mono ?_
    rintro e w1 ⟨rfl, hb⟩
    go_wp2
    go_ret
    exact ⟨rfl, hb⟩
  have z0 : decide (40 < (l0.length : Int)) = false := decide_eq_false (by omega)
  have z1 : decide (40 < (l1.length : Int)) = false := decide_eq_false (by omega)
  obtain ⟨⟨x1, x2, e1⟩, hR⟩ : ∃ t, hand_Within.f l0 l1 = some t := ⟨_, rfl⟩
  have HF := Aside0.mk hR
  clear hR g0 g1
  go_enter Try.func5, Try.ntmps5
  go_wp2_with fail
  refine (hand_Within.calls A0 c0 l0 A1 c1 l1 x1 x2 e1 _ H0.out HA.out.1 H1.out HA.out.2 HF.out).mono ?_
  rintro e w1 ⟨rfl, hb⟩
  have HB1 := Aside0.mk hb
  have hba := below_alloc (Below.refl w1.heap.size w1) (.cells #[.int .i64 x1, .int .i64 x2] 41)
  have K0 := Aside0.mk (blk_new w1 (.cells #[.int .i64 x1, .int .i64 x2] 41))
  have H0' := Aside0.mk (Kd.C_below (Kd.C_below H0.out hb) hba)
  have H1' := Aside0.mk (Kd.C_below (Kd.C_below H1.out hb) hba)
  have HBA := Aside0.mk hba
  clear hb hba
  go_wp2_with fail
  refine (pianolaref10_Within.calls A0 c0 l0 A1 c1 l1 x1 x2 e1 _ H0'.out HA.out.1 H1'.out HA.out.2 HF.out).mono ?_
  rintro e w2 ⟨rfl, hb⟩
  have HB2 := Aside0.mk (below_then HB1.out HB1.out.size (below_then HBA.out (by simp) hb))
  have K1 := Aside0.mk (blk_below2 hb K0.out)
  clear hb
  have a0 := (blk_cell (blk_alloc K1.out (.cells #[.int .i64 x1, .int .i64 x2] 41)) 0).trans rfl
  have a1 := (blk_cell (blk_alloc K1.out (.cells #[.int .i64 x1, .int .i64 x2] 41)) 1).trans rfl
  have b0 := (blk_cell (blk_new w2 (.cells #[.int .i64 x1, .int .i64 x2] 41)) 0).trans rfl
  have b1 := (blk_cell (blk_new w2 (.cells #[.int .i64 x1, .int .i64 x2] 41)) 1).trans rfl
  go_wp2_with fail
  refine (works_calls _).mono ?_
  rintro e w3 ⟨rfl, hb⟩
  have HB3 := Aside0.mk (below_then HB2.out HB2.out.size (below_then (below_alloc (Below.refl w2.heap.size w2) _) (by simp) hb))
  clear hb a0 a1 b0 b1
  go_wp2
  go_ret
  exact ⟨rfl, HB3.out⟩

end Go.Proofs.Ythddeillkdediaa.H
