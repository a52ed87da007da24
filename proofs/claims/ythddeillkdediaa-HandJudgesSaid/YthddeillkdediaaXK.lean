/- Texts TA, U2 of this chapter, one behind the other. -/
import Derived.Carry
import Derived.ChangeSlices
import Derived.Laws.IdiomArrays
import Derived.Lib.SmallJoins
import Derived.LoopIn
import Derived.LoopNIn
import Derived.OpenShut
import Derived.WideShapes
import Derived.Test.YthddeillkdediaaXG
import Derived.Test.YthddeillkdediaaXH
import Derived.Test.YthddeillkdediaaXI
import Derived.Test.YthddeillkdediaaXJ

/- Arguments of chapter 10's laws, opened. -/
namespace Go.Proofs.Ythddeillkdediaa.H
open Go.RowKit Go.Proofs.YthddeillkdediaaW.PrintWords Go.Proofs.YthddeillkdediaaW.PrintLast Go.Proofs.YthddeillkdediaaW.PrintMore
open Go.Shelf Go.Proofs.Ythddeillkdediaa.QA
open Go.ChangeShapes Go.WideShapes Go.Joins
set_option linter.unusedVariables false
set_option linter.unusedSimpArgs false


theorem rowsOf {α : Type} {d : Kd α} {W : World} {a : Addr} {len cap : Nat} (hl : len ≤ cap) (hm : cap ≤ maxLen) (z : α) (P : α → Prop)
  (hq : ∀ i, i < len → ∃ (x : α) (c : List Value), P x ∧ d.K W x c ∧ ∀ j u, c[j]? = some u → W.cell? (a.add (i * d.sz + j)) = some u) :
  ∃ l : List α, len = l.length ∧ Kd.C d W (some a) l.length l ∧ ∀ x ∈ l, P x := by
 have hM : maxLen = 9223372036854775807 := rfl
 obtain ⟨F, hF⟩ : ∃ F : Nat → α, ∀ i, i < len → P (F i) ∧ ∃ c, d.K W (F i) c ∧ ∀ j u, c[j]? = some u → W.cell? (a.add (i * d.sz + j)) = some u :=
  ⟨fun i => if h : i < len then (hq i h).choose else z, fun i h => by
   dsimp only
   rw [dif_pos h]
   obtain ⟨c, h1, h2, h3⟩ := (hq i h).choose_spec
   exact ⟨h1, c, h2, h3⟩⟩
 refine ⟨(List.range len).map F, by simp, ⟨rfl, by simp; omega, fun _ => ⟨a, rfl, fun j p hj => ?_⟩⟩, fun x hx => ?_⟩
 · have hjl : j < len := by have := (List.getElem?_eq_some_iff.1 hj).1; simpa using this
   rw [List.getElem?_map, List.getElem?_range hjl] at hj
   obtain rfl := Option.some.inj hj
   obtain ⟨_, c, h1, h2⟩ := hF j hjl
   exact ⟨c, d.K_len h1, h1, h2⟩
 · obtain ⟨j, hj, rfl⟩ := List.mem_map.1 hx
   exact (hF j (by have := List.mem_range.1 hj; omega)).1
set_option maxRecDepth 100000 in
theorem open_ratio {H : Type} {enc : TypeId × Value → H} {W : World} {r : Reach} {b0 : Nat} {v : Value} {d : DataW H} {p : List MemPlace}
  (hv : Value.okWide Try.prog W r b0 34 v) (h : DataW.Trod enc Try.prog W 0 (fun _ => true) true 34 v d p) : ∃ x y : Int, v = .agg #[.int .i64 x, .int .i64 y] ∧ (Lit.int .i64 x).wf = true ∧ (Lit.int .i64 y).wf = true := by
 obtain ⟨c0, c1, y0, y1, n, rfl, rfl, rfl, h0, h1⟩ := open_agg2 Try.underlying34 (by kernel_rfl) (by kernel_rfl) hv h
 obtain ⟨x, hc0, hy0, wx⟩ := DataW.trod_int Try.underlying3 h0
 obtain ⟨y, hc1, hy1, wy⟩ := DataW.trod_int Try.underlying3 h1
 simp only [List.cons.injEq, and_true] at hc0 hc1
 subst hc0
 subst hc1
 exact ⟨x, y, rfl, wx, wy⟩


set_option maxRecDepth 100000 in
theorem trod_nums {H : Type} {enc : TypeId × Value → H} {W : World} {base : Nat} {held : Bool} {fuel : Nat} {v : Value} {x : DataW H × List MemPlace} {t e : TypeId} {k : IntKind}
    (ut : Try.prog.underlying t = some (.slice e)) (ue : Try.prog.underlying e = some (.int k)) (ce : Try.prog.cellsOf e = 1) (hf : DataW.trod enc Try.prog W base (fun _ => true) held fuel t [v] = some x) :
    ∃ (A : Option Addr) (c : Nat) (l : List Int), v = .slice A l.length c ∧ l.length ≤ c ∧ Kd.C (Kd.int k) W A l.length l ∧ ∀ n ∈ l, (Lit.int k n).wf = true := by
  have key : ∃ (A : Option Addr) (len cap : Nat) (zs : List Int), v = .slice A len cap ∧ ((A = none ∧ len = 0 ∧ cap = 0 ∧ zs = []) ∨ ∃ x, A = some x ∧ len ≤ cap ∧ cap ≤ maxLen ∧ zs.length = cap ∧ (∀ i, i < zs.length → W.cell? (x.add i) = some (.int k (zs.getD i 0))) ∧ ∀ n ∈ zs, (Lit.int k n).wf = true) := by
    rcases open_ints ut ue ce hf with ⟨hcs, _⟩ | ⟨x, l, c, zs, hcs, _, hl, hm, hz, _, hcell, hwz⟩
    · simp at hcs
      subst hcs
      exact ⟨none, 0, 0, [], rfl, .inl ⟨rfl, rfl, rfl, rfl⟩⟩
    · simp at hcs
      subst hcs
      exact ⟨_, _, _, zs, rfl, .inr ⟨_, rfl, hl, hm, by simpa using hz, hcell, hwz⟩⟩
  obtain ⟨A, len, cap, zs, rfl, w⟩ := key
  obtain ⟨l, rfl, hr, hm, hw, hc⟩ := ReadsInt.ofRowC w
  exact ⟨A, cap, l, rfl, hc, Kd.C_of_reads (d := (0 : Int)) (h1 := fun _ => rfl) hr, hw⟩
set_option maxRecDepth 100000 in
theorem open_ints1 {H : Type} {enc : TypeId × Value → H} {W : World} {r : Reach} {b0 : Nat} {v : Value} {d : DataW H} {p : List MemPlace}
    (hv : Value.okWide Try.prog W r b0 22 v) (h : DataW.Trod enc Try.prog W 0 (fun _ => true) true 22 v d p) :
    ∃ (A : Option Addr) (c : Nat) (l : List Int), v = .slice A l.length c ∧ l.length ≤ c ∧ Kd.C (Kd.int .i64) W A l.length l ∧ ∀ n ∈ l, (Lit.int .i64 n).wf = true := by
  obtain ⟨A, len, cap, rfl⟩ := okWide_slice Try.underlying22 hv
  obtain ⟨fuel, hf⟩ := h
  exact trod_nums (v := .slice A len cap) Try.underlying22 Try.underlying3 (by kernel_rfl) (by simpa [Value.cells] using hf)
theorem und45 : Try.prog.underlying 45 = some (.slice 22) := by kernel_rfl
set_option maxRecDepth 100000 in
theorem open_rows {H : Type} {enc : TypeId × Value → H} {W : World} {r : Reach} {b0 : Nat} {v : Value} {d : DataW H} {p : List MemPlace}
  (hv : Value.okWide Try.prog W r b0 45 v) (h : DataW.Trod enc Try.prog W 0 (fun _ => true) true 45 v d p) :
  ∃ A c l, v = .slice A l.length c ∧ l.length ≤ c ∧ Kd.C (Kd.slice 3 (Kd.int .i64)) W A l.length l ∧ ∀ x ∈ l, True := by
 obtain ⟨A, n, c, rfl⟩ := okWide_slice und45 hv
 have e22 : Try.prog.cellsOf 22 = 1 := by kernel_rfl
 obtain ⟨fuel, hf⟩ := h
 rcases Go.Deep.open_slice und45 hf with ⟨hcs, _⟩ | ⟨a, len, cap, m, n3, D, Pl, hcs, _, hl, hm, hmm, _, hel⟩
 · simp [Value.cells] at hcs
   obtain ⟨rfl, rfl, rfl⟩ := hcs
   exact ⟨none, 0, [], rfl, Nat.le_refl _, Kd.C_nil _ _, fun x hx => by simp at hx⟩
 · simp [Value.cells] at hcs
   obtain ⟨rfl, rfl, rfl⟩ := hcs
   obtain ⟨l, rfl, hC, hw⟩ := rowsOf (d := Kd.slice 3 (Kd.int .i64)) (W := W) (a := a) hl hm ([] : List Int) (fun _ => True) (fun i hi => by
    obtain ⟨cs', k1, k2⟩ := hel i (by rw [hmm]; simp; omega)
    rw [e22] at k1
    obtain ⟨_, kl, kc⟩ := World.cells?_some k1
    match cs', kl with
    | [x0], _ =>
     obtain ⟨A, c, l, rfl, h1, h2, _⟩ := trod_nums Try.underlying22 Try.underlying3 (by kernel_rfl) k2
     refine ⟨l, [.slice A l.length c], trivial, ⟨A, c, rfl, h1, h2⟩, fun j u hu => ?_⟩
     have hj : j < 1 := (List.getElem?_eq_some_iff.1 hu).1
     have := kc j hj
     rw [Addr.add_add] at this
     rw [← hu]
     exact this)
   exact ⟨some a, _, l, rfl, hl, hC, hw⟩
end Go.Proofs.Ythddeillkdediaa.H

/- pianolalaw10.HandJudges. -/
namespace Go.Proofs.Ythddeillkdediaa.H
open Go.RowKit Go.Proofs.YthddeillkdediaaW.PrintWords Go.Proofs.YthddeillkdediaaW.PrintLast Go.Proofs.YthddeillkdediaaW.PrintMore
open Go.Shelf Go.Proofs.Ythddeillkdediaa.QA
set_option linter.unusedVariables false
set_option linter.unusedSimpArgs false


theorem V_of_C {w W : World} {A : Option Addr} {l : List (List Int)} {c : Nat} (hr : Kd.C (Kd.slice 3 (Kd.int .i64)) w A l.length l) (hc : l.length ≤ c) (hb : Below w.heap.size w W) :
    Kd.V (Kd.slice 3 (Kd.int .i64)) 22 W W.heap.size (fun k => k < w.heap.size) (.slice A l.length c) l :=
  Kd.V_mk hc (Kd.F_below (Kd.C_F (Kd.heap_slice 3 (Kd.heap_int .i64)) hr) hb)
theorem V_of_C1 {w W : World} {A : Option Addr} {l : List Int} {c : Nat} (hr : Kd.C (Kd.int .i64) w A l.length l) (hc : l.length ≤ c) (hb : Below w.heap.size w W) :
    Kd.V (Kd.int .i64) 3 W W.heap.size (fun k => k < w.heap.size) (.slice A l.length c) l :=
  Kd.V_mk hc (Kd.F_below (Kd.C_F (Kd.heap_int .i64) hr) hb)
set_option maxRecDepth 100000 in
set_option maxHeartbeats 4000000 in
theorem handJudges_calls (A0 : Option Addr) (c0 : Nat) (l0 : List (List Int)) (A1 : Option Addr) (c1 : Nat) (l1 : List Int) (num den : Int) (w : World) (hC0 : Kd.C (Kd.slice 3 (Kd.int .i64)) w A0 l0.length l0) (hc0 : l0.length ≤ c0) (hC1 : Kd.C (Kd.int .i64) w A1 l1.length l1) (hc1 : l1.length ≤ c1) :
  Calls Try.prog 6 #[.slice A0 l0.length c0, .slice A1 l1.length c1, .agg #[.int .i64 num, .int .i64 den]] w fun e w' => e = .returned (.bool true) ∧ Below w.heap.size w w' := by
  have hu34 := Try.underlying34
  have HZ := Aside0.mk (And.intro hC0 hC1)
  have HA := Aside0.mk (And.intro hc0 hc1)
  have HB := Aside0.mk (below_alloc (Below.refl w.heap.size w) (.cells #[.int .i64 num, .int .i64 den] 34))
  have H0 := Aside0.mk (Kd.C_below hC0 HB.out)
  have H1 := Aside0.mk (Kd.C_below hC1 HB.out)
  have K5 := Aside0.mk (blk_new w (.cells #[.int .i64 num, .int .i64 den] 34))
  clear hC0 hC1 hc0 hc1
  by_cases g0 : 20 < l0.length
  · have z0 : decide (20 < (l0.length : Int)) = true := decide_eq_true (by omega)
    clear g0
    go_enter Try.func6, Try.ntmps6
    go_wp2_with fail
    refine (works_calls _).mono ?_
    rintro e w1 ⟨rfl, hb⟩
    have HB' := Aside0.mk (HB.out.trans (hb.mono HB.out.size)); clear HB; have HB := HB'; clear HB'
    clear hb
    go_wp2
    go_ret
    exact ⟨rfl, HB.out⟩
  by_cases g1 : 40 < l1.length
  · have z1 : decide (40 < (l1.length : Int)) = true := decide_eq_true (by omega)
    have z0 : decide (20 < (l0.length : Int)) = false := decide_eq_false (by omega)
    clear g0 g1
    go_enter Try.func6, Try.ntmps6
    go_wp2_with fail
    refine (works_calls _).mono ?_
    rintro e w1 ⟨rfl, hb⟩
    have HB' := Aside0.mk (HB.out.trans (hb.mono HB.out.size)); clear HB; have HB := HB'; clear HB'
    clear hb
    go_wp2
    go_ret
    exact ⟨rfl, HB.out⟩
  have z0 : decide (20 < (l0.length : Int)) = false := decide_eq_false (by omega)
  have z1 : decide (40 < (l1.length : Int)) = false := decide_eq_false (by omega)
  obtain ⟨⟨r1, r2, r3⟩, hR⟩ : ∃ t, hand_Judge.f l0 l1 num den = some t := ⟨_, rfl⟩
  have hrl : r1.length ≤ 1000 := by
    unfold hand_Judge.f at hR
    replace hR := Option.some.inj hR
    split at hR
    · have := congrArg (fun t => t.1.length) hR
      simp only [List.length_map] at this
      omega
    · have := congrArg (fun t => t.1.length) hR
      simp at this
      simp [← this]
  have HF := Aside0.mk (show hand_Judge.f l0 l1 num den = some (r1, r2, r3) ∧ pianolaref10_Judge.f 5000 l0 l1 num den = some (r1, r2, r3) ∧ pianolalaw10_numbers.f 2000 r1 r1 = some true by
   refine ⟨hR, ?_, ?_⟩
   · rw [refJudge_f _ _ _ _ _ (by omega), hR]
   · rw [numbers_f r1 r1 2000 hrl (by omega), decide_eq_true rfl])
  have HG := Aside0.mk (show l0.length ≤ 20 by omega)
  clear hR hrl g0 g1
  go_enter Try.func6, Try.ntmps6
  go_wp2
  clear z0 z1
  generalize w.alloc (.cells #[.int .i64 num, .int .i64 den] 34) = w1 at HB H0 H1 K5 ⊢
  go_loopw [7] (fun s7 wr => ∃ i : Nat, s7 = .int .i64 i ∧ Aside0 (i ≤ l0.length) ∧ wr = w1) (fun s7 _ => l0.length - (intOf s7).toNat)
  case atStart => exact ⟨0, rfl, ⟨Nat.zero_le _⟩, rfl⟩
  case round =>
   obtain ⟨i, rfl, HI, rfl⟩ := hrel
   by_cases hj : i < l0.length
   · have n1 : i < l0.length := hj
     have hd : decide ((i : Int) < (l0.length : Int)) = true := decide_eq_true (by omega)
     clear hj
     obtain ⟨ad, A, c, rfl, hcell, hle, hC⟩ := at_L3 H0.out (i : Int) (by omega) (by omega)
     rw [Int.toNat_natCast] at hcell
     by_cases g : 40 < (rd_L3 l0 (i : Int)).length
     · have z : decide (40 < ((rd_L3 l0 (i : Int)).length : Int)) = true := decide_eq_true (by omega)
       clear g
       go_wp2_with fail
       refine (works_calls _).mono ?_
       rintro e w1 ⟨rfl, hb⟩
       have HB' := Aside0.mk (below_then HB.out HB.out.size hb); clear HB; have HB := HB'; clear HB'
       clear hb
       go_wp2
       go_ret
       exact ⟨rfl, HB.out⟩
     · have z : decide (40 < ((rd_L3 l0 (i : Int)).length : Int)) = false := decide_eq_false (by omega)
       clear g
       go_wp2
       refine ⟨⟨i + 1, congrArg _ (wrap_up i (by have := HG.out; omega)), ⟨n1⟩, (by first | rfl | trivial)⟩, ?_⟩
       rw [wrap_up i (by have := HG.out; omega)]
       exact meas_up l0.length i n1
   · obtain rfl : l0.length = i := by have := HI.out; omega
     have hd : decide ((l0.length : Int) < (l0.length : Int)) = false := decide_eq_false (by omega)
     clear hj
     have k0 := (blk_cell K5.out 0).trans rfl
     have k1 := (blk_cell K5.out 1).trans rfl
     go_wp2_with fail
     refine (hand_Judge.calls A0 c0 l0 A1 c1 l1 num den r1 r2 r3 _ H0.out HA.out.1 H1.out HA.out.2 HF.out.1).mono ?_
     rintro e w2 ⟨v, rfl, hR, hb⟩
     have hbb := hb
     clear hb
     have HB' := Aside0.mk (below_then HB.out HB.out.size hbb); clear HB; have HB := HB'; clear HB'
     have H0' := Aside0.mk (Kd.C_below H0.out hbb); clear H0; have H0 := H0'; clear H0'
     have H1' := Aside0.mk (Kd.C_below H1.out hbb); clear H1; have H1 := H1'; clear H1'
     have K5' := Aside0.mk (blk_below2 hbb K5.out); clear K5; have K5 := K5'; clear K5'
     clear hbb
     obtain ⟨Ar, cr, rfl, hcr, hCr⟩ := Kd.R_reads hR
     clear hR
     have HCr := Aside0.mk hCr; clear hCr
     clear k0 k1
     have k0 := (blk_cell K5.out 0).trans rfl
     have k1 := (blk_cell K5.out 1).trans rfl
     go_wp2_with fail
     refine (pianolaref10_Judge.calls 5000 (fun k => k < w.heap.size) A0 c0 l0 (fun k => k < w.heap.size) A1 c1 l1 num den r1 r2 r3 _ (V_of_C HZ.out.1 HA.out.1 HB.out) (V_of_C1 HZ.out.2 HA.out.2 HB.out) HF.out.2.1).mono ?_
     rintro e w3 ⟨v, rfl, hR, hb⟩
     have hbb := hb
     clear hb
     have HB' := Aside0.mk (below_then HB.out HB.out.size hbb); clear HB; have HB := HB'; clear HB'
     have H0' := Aside0.mk (Kd.C_below H0.out hbb); clear H0; have H0 := H0'; clear H0'
     have H1' := Aside0.mk (Kd.C_below H1.out hbb); clear H1; have H1 := H1'; clear H1'
     have HCr' := Aside0.mk (Kd.C_below HCr.out hbb); clear HCr; have HCr := HCr'; clear HCr'
     have K5' := Aside0.mk (blk_below2 hbb K5.out); clear K5; have K5 := K5'; clear K5'
     clear hbb
     obtain ⟨As, cs, rfl, hcs, hCs⟩ := Kd.R_reads hR
     clear hR
     have HCs := Aside0.mk hCs; clear hCs
     clear k0 k1
     go_wp2_with fail
     refine (pianolalaw10_numbers.calls 2000 Ar cr r1 As cs r1 true _ HCr.out hcr HCs.out hcs HF.out.2.2).mono ?_
     rintro e w4 ⟨rfl, hd⟩
     have hb := hd.below; clear hd
     have hbb := hb
     clear hb
     have HB' := Aside0.mk (below_then HB.out HB.out.size hbb); clear HB; have HB := HB'; clear HB'
     have H0' := Aside0.mk (Kd.C_below H0.out hbb); clear H0; have H0 := H0'; clear H0'
     have H1' := Aside0.mk (Kd.C_below H1.out hbb); clear H1; have H1 := H1'; clear H1'
     have HCr' := Aside0.mk (Kd.C_below HCr.out hbb); clear HCr; have HCr := HCr'; clear HCr'
     have HCs' := Aside0.mk (Kd.C_below HCs.out hbb); clear HCs; have HCs := HCs'; clear HCs'
     have K5' := Aside0.mk (blk_below2 hbb K5.out); clear K5; have K5 := K5'; clear K5'
     clear hbb
     clear HCr HCs
     go_wp2_with fail
     refine (works_calls _).mono ?_
     rintro e w5 ⟨rfl, hb⟩
     have hbb := hb
     clear hb
     have HB' := Aside0.mk (below_then HB.out HB.out.size hbb); clear HB; have HB := HB'; clear HB'
     have H0' := Aside0.mk (Kd.C_below H0.out hbb); clear H0; have H0 := H0'; clear H0'
     have H1' := Aside0.mk (Kd.C_below H1.out hbb); clear H1; have H1 := H1'; clear H1'
     have K5' := Aside0.mk (blk_below2 hbb K5.out); clear K5; have K5 := K5'; clear K5'
     clear hbb
     go_wp2
     go_ret
     exact ⟨rfl, HB.out⟩

end Go.Proofs.Ythddeillkdediaa.H
