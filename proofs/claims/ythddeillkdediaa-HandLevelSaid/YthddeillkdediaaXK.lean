/- Texts TA, U5 of this chapter, one behind the other. -/
import Derived.Carry
import Derived.ChangeSlices
import Derived.Laws.IdiomArrays
import Derived.Lib.SmallJoins
import Derived.LoopIn
import Derived.LoopNIn
import Derived.OpenShut
import Derived.WideShapes
import Derived.Test.YthddeillkdediaaXG
import Derived.Test.YthddeillkdediaaXH
import Derived.Test.YthddeillkdediaaXI
import Derived.Test.YthddeillkdediaaXJ

/- Arguments of chapter 10's laws, opened. -/
namespace Go.Proofs.Ythddeillkdediaa.H
open Go.RowKit Go.Proofs.YthddeillkdediaaW.PrintWords Go.Proofs.YthddeillkdediaaW.PrintLast Go.Proofs.YthddeillkdediaaW.PrintMore
open Go.Shelf Go.Proofs.Ythddeillkdediaa.QA
open Go.ChangeShapes Go.WideShapes Go.Joins
set_option linter.unusedVariables false
set_option linter.unusedSimpArgs false


def isByte (a : Int) : Prop := 0 ≤ a ∧ a ≤ 255
theorem wf_byte {a : Int} (h : (Lit.int .u8 a).wf = true) : isByte a := by
 simp [Lit.wf, IntKind.min, IntKind.max, IntKind.signed, IntKind.bits] at h
 unfold isByte
 omega
set_option maxRecDepth 100000 in
theorem trod_nums {H : Type} {enc : TypeId × Value → H} {W : World} {base : Nat} {held : Bool} {fuel : Nat} {v : Value} {x : DataW H × List MemPlace} {t e : TypeId} {k : IntKind}
    (ut : Try.prog.underlying t = some (.slice e)) (ue : Try.prog.underlying e = some (.int k)) (ce : Try.prog.cellsOf e = 1) (hf : DataW.trod enc Try.prog W base (fun _ => true) held fuel t [v] = some x) :
    ∃ (A : Option Addr) (c : Nat) (l : List Int), v = .slice A l.length c ∧ l.length ≤ c ∧ Kd.C (Kd.int k) W A l.length l ∧ ∀ n ∈ l, (Lit.int k n).wf = true := by
  have key : ∃ (A : Option Addr) (len cap : Nat) (zs : List Int), v = .slice A len cap ∧ ((A = none ∧ len = 0 ∧ cap = 0 ∧ zs = []) ∨ ∃ x, A = some x ∧ len ≤ cap ∧ cap ≤ maxLen ∧ zs.length = cap ∧ (∀ i, i < zs.length → W.cell? (x.add i) = some (.int k (zs.getD i 0))) ∧ ∀ n ∈ zs, (Lit.int k n).wf = true) := by
    rcases open_ints ut ue ce hf with ⟨hcs, _⟩ | ⟨x, l, c, zs, hcs, _, hl, hm, hz, _, hcell, hwz⟩
    · simp at hcs
      subst hcs
      exact ⟨none, 0, 0, [], rfl, .inl ⟨rfl, rfl, rfl, rfl⟩⟩
    · simp at hcs
      subst hcs
      exact ⟨_, _, _, zs, rfl, .inr ⟨_, rfl, hl, hm, by simpa using hz, hcell, hwz⟩⟩
  obtain ⟨A, len, cap, zs, rfl, w⟩ := key
  obtain ⟨l, rfl, hr, hm, hw, hc⟩ := ReadsInt.ofRowC w
  exact ⟨A, cap, l, rfl, hc, Kd.C_of_reads (d := (0 : Int)) (h1 := fun _ => rfl) hr, hw⟩
theorem okWide_array {P : Program} {w : World} {r : Reach} {b0 : Nat} {t : TypeId} {v : Value} {n : Nat} {e : TypeId} (ht : P.underlying t = some (.array n e)) (h : Value.okWide P w r b0 t v) : ∃ cs, v = .agg cs ∧ cs.size = P.cellsOf t := by
 simp only [Value.okWide, ht] at h
 obtain ⟨cs, h1, h2, _⟩ := h
 exact ⟨cs, h1, h2⟩
set_option maxRecDepth 100000 in
theorem open_byte_array {H : Type} {enc : TypeId × Value → H} {W : World} {r : Reach} {b0 : Nat} {t n : Nat} {v : Value} {d : DataW H} {p : List MemPlace} (ht : Try.prog.underlying t = some (.array n 5)) (hct : Try.prog.cellsOf t = n)
  (hv : Value.okWide Try.prog W r b0 t v) (h : DataW.Trod enc Try.prog W 0 (fun _ => true) true t v d p) :
  ∃ l : List Int, l.length = n ∧ v = .agg (l.map (Value.int .u8)).toArray ∧ ∀ x ∈ l, isByte x := by
 have e5 : Try.prog.cellsOf 5 = 1 := by kernel_rfl
 have u5 : Try.prog.underlying 5 = some (.int .u8) := by kernel_rfl
 obtain ⟨⟨cs⟩, rfl, hsz⟩ := okWide_array ht hv
 rw [hct] at hsz
 obtain ⟨fuel, hf⟩ := h
 obtain ⟨xs, m, _, _, _, hl, hi⟩ := DataW.trod_array ht hf
 have hcs : cs.length = n := hsz
 have key : ∀ i (hi : i < cs.length), ∃ a, cs[i] = .int .u8 a ∧ isByte a := fun i hlt => by
  have h1 := hi i (by omega)
  have h2 : (Value.cells (Value.agg cs.toArray)).toList = cs := rfl
  rw [h2, e5, Nat.mul_one, List.drop_eq_getElem_cons hlt, List.take_succ_cons, List.take_zero, List.getElem?_eq_getElem (by omega)] at h1
  obtain ⟨a, q, _, wf⟩ := DataW.trod_int u5 h1
  simp only [List.cons.injEq, and_true] at q
  exact ⟨a, q, wf_byte wf⟩
 clear hi hf hv hsz
 refine ⟨(List.range n).map fun i => if hlt : i < cs.length then (key i hlt).choose else 0, by simp, ?_, fun x hx => ?_⟩
 · congr 1
   have : cs = (((List.range n).map fun i => if hlt : i < cs.length then (key i hlt).choose else 0).map (Value.int .u8)) := by
    refine List.ext_getElem (by simp [hcs]) fun i h1 h2 => ?_
    simp only [List.getElem_map, List.getElem_range]
    rw [dif_pos h1]
    exact (key i h1).choose_spec.1
   rw [← this]
 · obtain ⟨i, hi, rfl⟩ := List.mem_map.1 hx
   have hlt : i < cs.length := by have := List.mem_range.1 hi; omega
   simp only [dif_pos hlt]
   exact (key i hlt).choose_spec.2

theorem und49 : Try.prog.underlying 49 = some (.slice 5) := by kernel_rfl
theorem und5 : Try.prog.underlying 5 = some (.int .u8) := by kernel_rfl
theorem und60 : Try.prog.underlying 60 = some (.array 2 5) := by kernel_rfl
theorem array3_ {α : Type} {cs : Array α} (h : cs.size = 3) : ∃ c0 c1 c2, cs = #[c0, c1, c2] := by
 obtain ⟨l⟩ := cs
 match l, h with
 | [c0, c1, c2], _ => exact ⟨c0, c1, c2, rfl⟩
set_option maxRecDepth 100000 in
theorem open_touch {H : Type} {enc : TypeId × Value → H} {W : World} {r : Reach} {b0 : Nat} {v : Value} {d : DataW H} {p : List MemPlace}
  (hv : Value.okWide Try.prog W r b0 51 v) (h : DataW.Trod enc Try.prog W 0 (fun _ => true) true 51 v d p) :
  ∃ A c l B e m x, v = .agg #[.slice A l.length c, .slice B m.length e, .int .u8 x] ∧ (l.length ≤ c ∧ m.length ≤ e) ∧ Kd.C (Kd.int .u8) W A l.length l ∧ Kd.C (Kd.int .u8) W B m.length m ∧ (∀ n ∈ l, isByte n) ∧ (∀ n ∈ m, isByte n) ∧ isByte x := by
 have e51 : Try.prog.cellsOf 51 = 3 := by kernel_rfl
 have e49 : Try.prog.cellsOf 49 = 1 := by kernel_rfl
 have e5 : Try.prog.cellsOf 5 = 1 := by kernel_rfl
 obtain ⟨cs, rfl, hsz⟩ := okWide_struct Try.underlying51 hv
 obtain ⟨c0, c1, c2, rfl⟩ := array3_ (hsz.trans e51)
 obtain ⟨fuel, hf⟩ := h
 obtain ⟨xs, m, _, _, _, hl, hi⟩ := DataW.trod_struct Try.underlying51 hf
 match xs, hl with
 | [y0, y1, y2], _ =>
  have t0 := hi 0 _ rfl
  have t1 := hi 1 _ rfl
  have t2 := hi 2 _ rfl
  replace t0 : DataW.trod enc Try.prog W 0 (fun _ => true) true m 49 [c0] = some y0 := by simpa [Value.cells, e49, e5] using t0
  replace t1 : DataW.trod enc Try.prog W 0 (fun _ => true) true m 49 [c1] = some y1 := by simpa [Value.cells, e49, e5] using t1
  replace t2 : DataW.trod enc Try.prog W 0 (fun _ => true) true m 5 [c2] = some y2 := by simpa [Value.cells, e49, e5] using t2
  obtain ⟨A, c, l, rfl, h1, h2, h3⟩ := trod_nums und49 und5 e5 t0
  obtain ⟨B, e, n, rfl, k1, k2, k3⟩ := trod_nums und49 und5 e5 t1
  obtain ⟨x, r2, _, v2⟩ := DataW.trod_int und5 t2
  simp only [List.cons.injEq, and_true] at r2
  subst r2
  exact ⟨A, c, l, B, e, n, x, rfl, ⟨h1, k1⟩, h2, k2, fun n hn => wf_byte (h3 n hn), fun n hn => wf_byte (k3 n hn), wf_byte v2⟩
set_option maxRecDepth 100000 in
theorem open_two8 {H : Type} {enc : TypeId × Value → H} {W : World} {r : Reach} {b0 : Nat} {v : Value} {d : DataW H} {p : List MemPlace}
  (hv : Value.okWide Try.prog W r b0 60 v) (h : DataW.Trod enc Try.prog W 0 (fun _ => true) true 60 v d p) :
  ∃ x y, v = .agg #[.int .u8 x, .int .u8 y] ∧ isByte x ∧ isByte y := by
 obtain ⟨l, hl, rfl, hb⟩ := open_byte_array (n := 2) (by kernel_rfl) (by kernel_rfl) hv h
 match l, hl with
 | [m0, m1], _ => exact ⟨m0, m1, rfl, hb _ (by simp), hb _ (by simp)⟩

end Go.Proofs.Ythddeillkdediaa.H

/- pianolalaw10.HandLevel. -/
namespace Go.Proofs.Ythddeillkdediaa.H
open Go.RowKit Go.Proofs.YthddeillkdediaaW.PrintWords Go.Proofs.YthddeillkdediaaW.PrintLast Go.Proofs.YthddeillkdediaaW.PrintMore
open Go.Shelf Go.Proofs.Ythddeillkdediaa.QA
set_option linter.unusedVariables false
set_option linter.unusedSimpArgs false


theorem C_take {w : World} {A : Option Addr} {xs : List Int} (h : Kd.C (Kd.int .i64) w A xs.length xs) (m : Nat) : Kd.C (Kd.int .i64) w A (xs.take m).length (xs.take m) := by
 obtain ⟨h1, h2, h3⟩ := h
 have hl : (xs.take m).length = min m xs.length := List.length_take
 refine ⟨rfl, by omega, fun hp => ?_⟩
 obtain ⟨ad, e, hc⟩ := h3 (by omega)
 refine ⟨ad, e, fun j p hj => ?_⟩
 have hjl : j < (xs.take m).length := (List.getElem?_eq_some_iff.1 hj).1
 rw [List.getElem?_take_of_lt (by omega)] at hj
 exact hc j p hj
theorem min2_mn (k k' : IntKind) (x y : Int) : Builtin.min2 (.int k x) (.int k' y) = pure (.int k (mn x y)) := min2_int k k' x y
attribute [local go_sem] min2_mn min_two
set_option maxRecDepth 100000 in
set_option maxHeartbeats 8000000 in
theorem handLevel_calls (A0 : Option Addr) (c0 : Nat) (l0 : List Int) (A1 : Option Addr) (c1 : Nat) (l1 : List Int) (x v0 v1 : Int) (w : World) (hc : l0.length ≤ c0 ∧ l1.length ≤ c1) (hC0 : Kd.C (Kd.int .u8) w A0 l0.length l0) (hC1 : Kd.C (Kd.int .u8) w A1 l1.length l1) (hl : ∀ n ∈ l0, 0 ≤ n ∧ n ≤ 255) (hm : ∀ n ∈ l1, 0 ≤ n ∧ n ≤ 255) (hx : 0 ≤ x ∧ x ≤ 255) (hv0 : 0 ≤ v0 ∧ v0 ≤ 255) (hv1 : 0 ≤ v1 ∧ v1 ≤ 255) :
  Calls Try.prog 9 #[.agg #[.slice A0 l0.length c0, .slice A1 l1.length c1, .int .u8 x], .agg #[.int .u8 v0, .int .u8 v1]] w fun e w' => e = .returned (.bool true) ∧ Below w.heap.size w w' := by
 have hu51 := Try.underlying51
 have hu34 := Try.underlying34
 have hu60 := und60
 obtain ⟨a, b, hmd, sa, sb⟩ := made_f l0 l1 hl hm x hx 20 (by omega)
 have HB := Aside0.mk (below_alloc (below_alloc (Below.refl w.heap.size w) (.cells #[.slice A0 l0.length c0, .slice A1 l1.length c1, .int .u8 x] 51)) (.cells #[.int .u8 v0, .int .u8 v1] 60))
 have K1 := Aside0.mk (blk_alloc (blk_new w (.cells #[.slice A0 l0.length c0, .slice A1 l1.length c1, .int .u8 x] 51)) (.cells #[.int .u8 v0, .int .u8 v1] 60))
 have K2 := Aside0.mk (blk_new (w.alloc (.cells #[.slice A0 l0.length c0, .slice A1 l1.length c1, .int .u8 x] 51)) (.cells #[.int .u8 v0, .int .u8 v1] 60))
 have hs1 : (w.alloc (.cells #[.slice A0 l0.length c0, .slice A1 l1.length c1, .int .u8 x] 51)).heap.size = w.heap.size + 1 := by simp
 rw [hs1] at K2
 have H0 := Aside0.mk (Kd.C_below hC0 HB.out)
 have H1 := Aside0.mk (Kd.C_below hC1 HB.out)
 have HA := Aside0.mk hc
 have HM := Aside0.mk hmd
 have HS := Aside0.mk (And.intro sa sb)
 have HV := Aside0.mk (And.intro hv0 hv1)
 clear hs1 hC0 hC1 hc hmd hl hm hx sa sb hv0 hv1
 have k0 := (blk_cell K1.out 0).trans rfl
 have k1 := (blk_cell K1.out 1).trans rfl
 have k2 := (blk_cell K1.out 2).trans rfl
 go_enter Try.func9, Try.ntmps9
 go_wp2_with fail
 refine (pianolalaw10_Touch_made.calls 20 A0 c0 l0 A1 c1 l1 x a b _ H0.out HA.out.1 H1.out HA.out.2 HM.out).mono ?_
 rintro e w1 ⟨va, vb, rfl, hRa, hRb, hb⟩
 have HB1 := Aside0.mk (HB.out.trans (hb.mono HB.out.size))
 have K3 := Aside0.mk (blk_below2 hb K2.out)
 obtain ⟨Aa, ca, rfl, hca, hCa⟩ := Kd.R_reads hRa
 obtain ⟨Ab, cb, rfl, hcb, hCb⟩ := Kd.R_reads hRb
 have HCa := Aside0.mk (And.intro hca hCa)
 have HCb := Aside0.mk (And.intro hcb hCb)
 clear hb hRa hRb hca hCa hcb hCb k0 k1 k2 K1 K2 H0 H1 HM HB
 go_upto_region 2 with fail
 obtain ⟨a2, ha2⟩ : ∃ l, l = a.take 4 := ⟨_, rfl⟩
 obtain ⟨b2, hb2⟩ : ∃ l, l = b.take 4 := ⟨_, rfl⟩
 obtain ⟨na, hna⟩ : ∃ n, n = a2.length := ⟨_, rfl⟩
 obtain ⟨nb, hnb⟩ : ∃ n, n = b2.length := ⟨_, rfl⟩
 have hla : a2.length = min 4 a.length := by rw [ha2, List.length_take]
 have hlb : b2.length = min 4 b.length := by rw [hb2, List.length_take]
 have hma : mn 4 (a.length : Int) = (na : Int) := by rw [hna, hla]; unfold mn; split <;> omega
 have hmb : mn 4 (b.length : Int) = (nb : Int) := by rw [hnb, hlb]; unfold mn; split <;> omega
 have n1 : na ≤ a.length := by rw [hna, hla]; omega
 have n2 : nb ≤ b.length := by rw [hnb, hlb]; omega
 have n3 : na ≤ ca := Nat.le_trans n1 HCa.out.1
 have n4 : nb ≤ cb := Nat.le_trans n2 HCb.out.1
 have HNA := Aside0.mk (And.intro hna hnb)
 have hbd : Below w1.heap.size w1 w1.drew := pw_below_drewN (Below.refl _ _) 1
 have HCa2 := Aside0.mk (show na ≤ ca ∧ Kd.C (Kd.int .i64) w1.drew Aa na a2 from ⟨n3, by rw [hna, ha2]; exact Kd.C_below (C_take HCa.out.2 4) hbd⟩)
 have HCb2 := Aside0.mk (show nb ≤ cb ∧ Kd.C (Kd.int .i64) w1.drew Ab nb b2 from ⟨n4, by rw [hnb, hb2]; exact Kd.C_below (C_take HCb.out.2 4) hbd⟩)
 have HS2 := Aside0.mk (show (SmpOK a2 ∧ a2.length ≤ 4) ∧ (SmpOK b2 ∧ b2.length ≤ 4) from ⟨⟨by rw [ha2]; exact HS.out.1.take 4 (by omega), by omega⟩, ⟨by rw [hb2]; exact HS.out.2.take 4 (by omega), by omega⟩⟩)
 have K4 := Aside0.mk (blk_below2 hbd K3.out)
 have HB2 := Aside0.mk (below_drew1 HB1.out)
 clear hna hnb ha2 hb2 hla hlb hbd HCa HCb HS K3 HB1
 refine region_quiet_tail 11 (by kernel_rfl) (by kernel_rfl) ?_
 generalize w1.drew = wD at HB2 HCa2 HCb2 K4 ⊢
 simp only [List.take_succ_cons, List.take_zero, List.drop_succ_cons, List.drop_zero]
 iterate 11 go_big_quiet_step (fail)
 refine wpQuiet_nil ?_
 go_step
 clear hma hmb n1 n2 n3 n4
 obtain ⟨rfl, rfl⟩ := HNA.out
 have c0' := (blk_cell K4.out 0).trans rfl
 have c1' := (blk_cell K4.out 1).trans rfl
 obtain ⟨den, hden⟩ : ∃ den, den = 1 + v1 := ⟨_, rfl⟩
 have hw0 : wrap64 v0 = v0 := w64' _ (by have := HV.out; omega) (by have := HV.out; omega)
 have hw1 : wrap64 v1 = v1 := w64' _ (by have := HV.out; omega) (by have := HV.out; omega)
 have hw2 : wrap64 (1 + v1) = den := by rw [w64' _ (by have := HV.out; omega) (by have := HV.out; omega), hden]
 have HVD := Aside0.mk (show (0 ≤ v0 ∧ v0 ≤ 255) ∧ (1 ≤ den ∧ den ≤ 256) by have := HV.out; omega)
 clear hden
 go_wp2_with fail
 refine (pianolalaw10_part.calls v0 den v0 den _ rfl).mono ?_
 rintro e w2 ⟨rfl, hb⟩
 have HB3 := Aside0.mk (below_then HB2.out HB2.out.size hb)
 have HB4 := Aside0.mk (HB3.out.alloc HB3.out.size (.cells #[.int .i64 v0, .int .i64 den] 34))
 have K7 := Aside0.mk (blk_new w2 (.cells #[.int .i64 v0, .int .i64 den] 34))
 have hba := below_alloc (Below.refl w2.heap.size w2) (.cells #[.int .i64 v0, .int .i64 den] 34)
 have hCa2 := Aside0.mk (Kd.C_below (Kd.C_below HCa2.out.2 hb) hba)
 have hCb2 := Aside0.mk (Kd.C_below (Kd.C_below HCb2.out.2 hb) hba)
 have HCC := Aside0.mk (And.intro HCa2.out.1 HCb2.out.1)
 clear hb hba HCa2 HCb2 K4 HB2 c0' c1' hw0 hw1 hw2 HNA HV
 go_wp2
 generalize w2.alloc (.cells #[.int .i64 v0, .int .i64 den] 34) = w3 at HB4 K7 hCa2 hCb2 ⊢
 obtain ⟨N, hN⟩ : ∃ N, N = a2.length + b2.length := ⟨_, rfl⟩
 have HN := Aside0.mk (And.intro hN (show N ≤ 8 by have := HS2.out.1.2; have := HS2.out.2.2; omega))
 obtain ⟨T, hT⟩ : ∃ T, T = 2 ^ N := ⟨_, rfl⟩
 have hTT : T ≤ 256 := by rw [hT]; exact Nat.le_trans (Nat.pow_le_pow_right (by omega) HN.out.2) (by decide)
 have hN64 : N ≤ 64 := by have := HN.out.2; omega
 have hN64b : (N : Int) ≤ 64 := by omega
 have hw : wrap64 ((a2.length : Int) + (b2.length : Int)) = (N : Int) := by rw [w64' _ (by omega) (by have := HN.out; omega), HN.out.1]; push_cast; rfl
 have hp : wrap64 ((2 : Int) ^ N) = (T : Int) := by
  have e : (2 : Int) ^ N = (T : Int) := by rw [hT]; push_cast; rfl
  rw [e, w64' _ (by omega) (by omega)]
 have HTF := Aside0.mk (And.intro hT (And.intro hTT (And.intro hN64 (And.intro hN64b (And.intro hw hp)))))
 obtain ⟨mid, hmid⟩ : ∃ mid, mid = (a2.length : Int) * (b2.length : Int) := ⟨_, rfl⟩
 obtain ⟨OF, hOF⟩ : ∃ OF : Int → Nat, OF = fun y => cntB a2 b2 (fun x => decide (farI y mid ≤ farI x mid)) := ⟨_, rfl⟩
 obtain ⟨L, hL⟩ : ∃ L, L = cntB a2 b2 (fun _ => true) := ⟨_, rfl⟩
 have hL70 : L ≤ 70 := by rw [hL, cntB_pas]; exact pas_small _ (by have := HS2.out; omega) _ (by have := HS2.out; omega)
 have hL0 : 0 < L := by rw [hL]; exact cntB_pos a2 b2 _ rfl
 have hOL : ∀ y, OF y ≤ L := fun y => by rw [hOF, hL]; exact cntB_mono a2 b2 _ _ (fun _ _ => rfl)
 obtain ⟨q8, hq8⟩ : ∃ q, q = fun p : List Int × List Int => decide ((OF (beatsI p.1 p.2) : Int) * den ≤ v0 * (L : Int)) := ⟨_, rfl⟩
 obtain ⟨q9, hq9⟩ : ∃ q, q = fun p : List Int × List Int => true := ⟨_, rfl⟩
 have HQ := Aside0.mk (And.intro hq8 (And.intro hq9 (And.intro hOF (And.intro hL (And.intro hL70 (And.intro hL0 (And.intro hOL hmid)))))))
 clear hN hT hTT hN64 hN64b hw hp hmid hq8 hq9 hOF hL hL70 hL0 hOL
 go_loopw [8, 9, 10] (fun s8 s9 s10 wr => ∃ i : Nat, s10 = .int .i64 i ∧ s8 = .int .i64 (cntK a2 b2 q8 i) ∧ s9 = .int .i64 (cntK a2 b2 q9 i) ∧ Aside0 (i ≤ T) ∧ Aside0 (Below w3.heap.size w3 wr)) (fun _ _ s10 _ => T - (intOf s10).toNat)
 case atStart => exact ⟨0, rfl, rfl, rfl, ⟨Nat.zero_le _⟩, ⟨Below.refl _ _⟩⟩
 case round =>
  obtain ⟨i, rfl, rfl, rfl, HI, HBw⟩ := hrel
  have hN64 := HTF.out.2.2.1
  have hN64b := HTF.out.2.2.2.1
  have hw := HTF.out.2.2.2.2.1
  have hp := HTF.out.2.2.2.2.2
  by_cases hj : i < T
  · have n1 : i < T := hj
    have hd : decide ((i : Int) < (T : Int)) = true := decide_eq_true (by omega)
    have HIT := Aside0.mk (show i ≤ 256 by have := HTF.out.2.1; omega)
    clear hj
    have HCH := Aside0.mk (chosen_f a2 b2 i 40 (by have := HS2.out; omega) (by have := HIT.out; omega) (by omega))
    have hpm := splits_len _ _ (pick_mem (a2 ++ b2) i)
    have hpp := split_mem_perm _ _ (pick_mem (a2 ++ b2) i)
    have hsm := split_mem (pick_mem (a2 ++ b2) i)
    rw [List.length_append] at hpm
    obtain ⟨c, hc⟩ : ∃ c, c = (pickL (a2 ++ b2) i).1 := ⟨_, rfl⟩
    obtain ⟨d, hdd⟩ : ∃ d, d = (pickL (a2 ++ b2) i).2 := ⟨_, rfl⟩
    rw [← hc, ← hdd] at HCH hpm hpp hsm
    have HP := Aside0.mk (show pickL (a2 ++ b2) i = (c, d) by rw [hc, hdd])
    have HPP := Aside0.mk (And.intro hpm (And.intro hpp hsm))
    clear hc hdd hpm hpp hsm
    go_wp2_with fail
    refine (pianolalaw10_chosen.calls 40 Aa ca a2 Ab cb b2 (i : Int) c d _ _ (Kd.C_below hCa2.out HBw.out) HCC.out.1 (Kd.C_below hCb2.out HBw.out) HCC.out.2 HCH.out).mono ?_
    rintro e w4 ⟨vc, vd, rfl, hRc, hRd, hb⟩
    have HB5 := Aside0.mk (HBw.out.trans (hb.mono HBw.out.size))
    clear hb
    obtain ⟨Ac, cc, rfl, hcc, hCc⟩ := Kd.R_reads hRc
    obtain ⟨Ad, cd, rfl, hcd, hCd⟩ := Kd.R_reads hRd
    have HCc := Aside0.mk (And.intro hcc hCc)
    have HCd := Aside0.mk (And.intro hcd hCd)
    clear hRc hRd hcc hCc hcd hCd HBw
    by_cases hok : c.length = a2.length
    · have hbe : (((c.length : Nat) : Int) == (a2.length : Int)) = true := by rw [hok]; exact beq_self_eq_true _
      rw [hbe]
      have hdl : d.length = b2.length := by have := HPP.out.1; omega
      have hsc : SmpOK c := SmpOK.of_mem HS2.out.1.1 HS2.out.2.1 HPP.out.2.2.1 (by rw [hok]; exact HS2.out.1.1.1) (by rw [hok]; exact HS2.out.1.1.2.1)
      have hsd : SmpOK d := SmpOK.of_mem HS2.out.1.1 HS2.out.2.1 HPP.out.2.2.2 (by rw [hdl]; exact HS2.out.2.1.1) (by rw [hdl]; exact HS2.out.2.1.2.1)
      have hch : chanceI c d = lowI (OF (beatsI c d)) L := by
        rw [chance_perm HPP.out.2.1 hok hdl, HQ.out.2.2.1, HQ.out.2.2.2.1, HQ.out.2.2.2.2.2.2.2]
      have hlf := lowI_facts (OF (beatsI c d)) L HQ.out.2.2.2.2.2.1 (HQ.out.2.2.2.2.2.2.1 _)
      have hle := lowI_le (OF (beatsI c d)) L HQ.out.2.2.2.2.2.1 v0 den
      rw [← hch] at hlf hle
      obtain ⟨p1, hp1⟩ : ∃ p, p = (chanceI c d).1 := ⟨_, rfl⟩
      obtain ⟨p2, hp2⟩ : ∃ p, p = (chanceI c d).2 := ⟨_, rfl⟩
      rw [← hp1, ← hp2] at hlf hle
      have hL70 := HQ.out.2.2.2.2.1
      have hP1 : 1 ≤ p2 ∧ p2 ≤ 70 ∧ 0 ≤ p1 ∧ p1 ≤ 70 ∧ p1 ≤ p2 := by omega
      have hm1 := mul_in (x := p1) (y := den) (p := 70) (q := 256) (by omega) (by have := HVD.out; omega)
      have hm2 := mul_in (x := v0) (y := p2) (p := 255) (q := 70) (by have := HVD.out; omega) (by omega)
      have hw1 : wrap64 (p1 * den) = p1 * den := w64' _ (by omega) (by omega)
      have hw2 : wrap64 (v0 * p2) = v0 * p2 := w64' _ (by omega) (by omega)
      obtain ⟨v, hv⟩ : ∃ v : Int, v = if v0 * p2 < p1 * den then 0 else 1 := ⟨_, rfl⟩
      have hvd : verdJ d v0 den c = v := by
        unfold verdJ gtJ
        rw [← hp1, ← hp2, hw1, hw2, hv]
        by_cases g : v0 * p2 < p1 * den
        · rw [if_pos g, if_pos (decide_eq_true g)]
        · rw [if_neg g, if_neg (by simpa using g)]
      have hisn : isIn 0 v0 1000000 = true := by unfold isIn; simp; have := HVD.out; omega
      have hisd : isIn 1 den 1000000 = true := by unfold isIn; simp; have := HVD.out; omega
      have heJ : errJ [c] d v0 den = 0 := by
        unfold errJ
        rw [if_neg (by simp), if_neg (by simp)]
        have hf : firstE [c] = 0 := by unfold firstE; rw [if_pos hsc.chk]; rfl
        rw [if_pos hf, if_pos hsd.chk, if_pos ⟨hisn, hisd⟩]
      have hbst : (bestF [c] d 1).2.2 = 0 := by
        show (if gtJ (chanceI (rd_L3 [c] (0 : Nat)) d).1 (chanceI (rd_L3 [c] (0 : Nat)) d).2 (bestF [c] d 0).1 (bestF [c] d 0).2.1 = true then ((chanceI (rd_L3 [c] (0 : Nat)) d).1, (chanceI (rd_L3 [c] (0 : Nat)) d).2, ((0 : Nat) : Int)) else bestF [c] d 0).2.2 = 0
        split <;> rfl
      have HE := Aside0.mk (show hand_Chance.f c d = some (p1, p2, 0) ∧ hand_Judge.f [c] d v0 den = some ([v], 0, 0) by
        refine ⟨?_, ?_⟩
        · unfold hand_Chance.f; rw [if_pos (smp_both hsc hsd), ← hp1, ← hp2]
        · unfold hand_Judge.f; rw [if_pos heJ]; simp only [List.map_cons, List.map_nil, List.length_cons, List.length_nil]; rw [hvd, hbst])
      have hk9 := cntK_succ a2 b2 q9 i
      rw [HP.out, HQ.out.2.1, decide_eq_true hok, Bool.true_and, if_pos rfl, ← HQ.out.2.1] at hk9
      have hk8 := cntK_succ a2 b2 q8 i
      have hqv : q8 (c, d) = decide ((OF (beatsI c d) : Int) * den ≤ v0 * (L : Int)) := by rw [HQ.out.1]
      rw [HP.out, decide_eq_true hok, Bool.true_and, hqv] at hk8
      simp only [decide_eq_true_eq] at hk8
      have hc8 := cntK_le a2 b2 q8 i
      have hc9 := cntK_le a2 b2 q9 i
      have hit := HIT.out
      have u9 : wrap64 ((cntK a2 b2 q9 i : Int) + 1) = (cntK a2 b2 q9 (i + 1) : Int) := by rw [hk9, w64' _ (by omega) (by omega)]; push_cast; rfl
      have HU9 := Aside0.mk u9
      have HK8 := Aside0.mk (And.intro hk8 (And.intro hle (And.intro hc8 hit)))
      have HPB := Aside0.mk hP1
      have HW := Aside0.mk (And.intro hw1 hw2)
      have HVV := Aside0.mk hv
      clear hbe hok hdl hsc hsd hch hlf hle hp1 hp2 hL70 hP1 hm1 hm2 hw1 hw2 hv hvd hisn hisd heJ hbst hk9 hk8 hc8 hc9 hit HCH u9 hqv
      go_wp2_with fail
      refine (hand_Chance.calls Ac cc c Ad cd d p1 p2 0 _ HCc.out.2 HCc.out.1 HCd.out.2 HCd.out.1 HE.out.1).mono ?_
      rintro e w5 ⟨rfl, hb⟩
      have HB6 := Aside0.mk (HB5.out.trans (hb.mono HB5.out.size))
      have HCc5 := Aside0.mk (Kd.C_below HCc.out.2 hb)
      have HCd5 := Aside0.mk (Kd.C_below HCd.out.2 hb)
      clear hb HB5
      have hbx := blk_new w5 (.cells #[.int .i64 p1, .int .i64 p2] 34)
      have hb1 := below_alloc (Below.refl w5.heap.size w5) (.cells #[.int .i64 p1, .int .i64 p2] 34)
      have hsz : (w5.alloc (.cells #[.int .i64 p1, .int .i64 p2] 34)).heap.size = w5.heap.size + 1 := by simp
      have hb2 := below_alloc hb1 (.cells #[.slice Ac c.length cc] 22)
      have hrow := blk_new (w5.alloc (.cells #[.int .i64 p1, .int .i64 p2] 34)) (.cells #[.slice Ac c.length cc] 22)
      rw [hsz] at hrow
      have K7x := Aside0.mk (blk_alloc (blk_alloc (blk_below2 HB6.out K7.out) (.cells #[.int .i64 p1, .int .i64 p2] 34)) (.cells #[.slice Ac c.length cc] 22))
      have hrows := C_rows ((w5.alloc (.cells #[.int .i64 p1, .int .i64 p2] 34)).alloc (.cells #[.slice Ac c.length cc] 22)) (w5.heap.size + 1) #[.slice Ac c.length cc] 22 [c] hrow (by simp) (fun j hj => by
        obtain rfl : j = 0 := by simp at hj; omega
        exact ⟨Ac, cc, rfl, HCc.out.1, Kd.C_below HCc5.out hb2⟩)
      have HRW := Aside0.mk hrows
      have HBX := Aside0.mk (blk_alloc hbx (.cells #[.slice Ac c.length cc] 22))
      have HCd6 := Aside0.mk (Kd.C_below HCd5.out hb2)
      have HB2x := Aside0.mk hb2
      clear hbx hb1 hb2 hrow hrows HCc5 HCd5
      have f0 := (blk_cell K7x.out 0).trans rfl
      have f1 := (blk_cell K7x.out 1).trans rfl
      go_wp2_with fail
      refine (hand_Judge.calls (some ⟨w5.heap.size + 1, 0, none⟩) 1 [c] Ad cd d v0 den [v] 0 0 _ HRW.out (Nat.le_refl _) HCd6.out HCd.out.1 HE.out.2).mono ?_
      rintro e w6 ⟨vv, rfl, hRv, hb⟩
      have HB7 := Aside0.mk (HB6.out.trans ((below_then HB2x.out (by simp only [World.size_alloc]; omega) hb).mono HB6.out.size))
      have K14 := Aside0.mk (blk_below2 hb HBX.out)
      have K7y := Aside0.mk (blk_below2 hb K7x.out)
      obtain ⟨Av, cv, rfl, hcv, hCv⟩ := Kd.R_reads hRv
      obtain ⟨adv, rfl⟩ := C_some hCv (by simp)
      have c4 := rd_cell hCv 0 (by simp)
      have hrd : rd [v] ((0 : Nat) : Int) = v := rfl
      rw [hrd, show adv.add 0 = adv by unfold Addr.add; rfl] at c4
      clear hb hRv hcv hCv hrd HB6 HRW HBX HCd6 HB2x K7x f0 f1 HCc HCd hsz
      have f0 := (blk_cell K7y.out 0).trans rfl
      have f1 := (blk_cell K7y.out 1).trans rfl
      have g0 := (blk_cell K14.out 0).trans rfl
      have g1 := (blk_cell K14.out 1).trans rfl
      have hw1 := HW.out.1
      have hw2 := HW.out.2
      have z1 : decide (p2 < 1) = false := decide_eq_false (by have := HPB.out; omega)
      have z2 : decide (100 < p2) = false := decide_eq_false (by have := HPB.out; omega)
      have z3 : decide (p1 < 0) = false := decide_eq_false (by have := HPB.out; omega)
      have z4 : decide (p2 < p1) = false := decide_eq_false (by have := HPB.out; omega)
      by_cases hq : p1 * den ≤ v0 * p2
      · have hv1 : v = 1 := by rw [HVV.out, if_neg (by omega)]
        subst hv1
        have z5 : decide (p1 * den ≤ v0 * p2) = true := decide_eq_true hq
        have u8 : wrap64 ((cntK a2 b2 q8 i : Int) + 1) = (cntK a2 b2 q8 (i + 1) : Int) := by
          have h := HK8.out
          rw [if_pos (h.2.1.1 hq)] at h
          rw [h.1, w64' _ (by omega) (by omega)]
          push_cast
          rfl
        have HU8 := Aside0.mk u8
        clear u8
        go_wp2
        refine ⟨⟨i + 1, congrArg _ (wrap_up i (by have := HIT.out; omega)), congrArg _ HU8.out, congrArg _ HU9.out, ⟨n1⟩, HB7⟩, ?_⟩
        rw [wrap_up i (by have := HIT.out; omega)]; exact meas_up T i n1
      · have hv1 : v = 0 := by rw [HVV.out, if_pos (by omega)]
        subst hv1
        have z5 : decide (p1 * den ≤ v0 * p2) = false := decide_eq_false hq
        have u8 : cntK a2 b2 q8 i = cntK a2 b2 q8 (i + 1) := by
          have h := HK8.out
          rw [if_neg (fun e => hq (h.2.1.2 e))] at h
          rw [h.1, Nat.add_zero]
        have HU8 := Aside0.mk u8
        clear u8
        go_wp2
        refine ⟨⟨i + 1, congrArg _ (wrap_up i (by have := HIT.out; omega)), congrArg (fun m : Nat => Value.int .i64 (m : Int)) HU8.out, congrArg _ HU9.out, ⟨n1⟩, HB7⟩, ?_⟩
        rw [wrap_up i (by have := HIT.out; omega)]; exact meas_up T i n1
    · have hbe : (((c.length : Nat) : Int) == (a2.length : Int)) = false := beq_false_of_ne (by omega)
      rw [hbe]
      have hst : ∀ q, cntK a2 b2 q i = cntK a2 b2 q (i + 1) := fun q => by
        have h1 := cntK_succ a2 b2 q i
        rw [HP.out, decide_eq_false hok, Bool.false_and, if_neg (by decide)] at h1
        rw [h1, Nat.add_zero]
      have HST := Aside0.mk hst
      clear hbe hst hok
      go_wp2
      refine ⟨⟨i + 1, congrArg _ (wrap_up i (by have := HIT.out; omega)), by rw [HST.out], by rw [HST.out], ⟨n1⟩, HB5⟩, ?_⟩
      rw [wrap_up i (by have := HIT.out; omega)]; exact meas_up T i n1
  · obtain rfl : T = i := by have := HI.out; omega
    have hd : decide ((T : Int) < (T : Int)) = false := decide_eq_false (by omega)
    clear hj HI
    obtain ⟨F, hF⟩ : ∃ F, F = cntK a2 b2 q8 T := ⟨_, rfl⟩
    obtain ⟨M, hM⟩ : ∃ M, M = cntK a2 b2 q9 T := ⟨_, rfl⟩
    rw [← hF, ← hM]
    have bF := cntK_le a2 b2 q8 T
    have bM := cntK_le a2 b2 q9 T
    rw [← hF] at bF
    rw [← hM] at bM
    have hTT := HTF.out.2.1
    have hTN : T = 2 ^ (a2.length + b2.length) := by rw [HTF.out.1, HN.out.1]
    rw [hTN, HQ.out.1] at hF
    rw [hTN, HQ.out.2.1] at hM
    have kF := hF.trans (cntK_all a2 b2 (fun y => decide ((OF y : Int) * den ≤ v0 * (L : Int))))
    have kM := hM.trans (cntK_all a2 b2 (fun x => true))
    have hlv := level_law a2 b2 mid v0 den (by have := HVD.out; omega) (by have := HVD.out; omega)
    have hkF : F = cntB a2 b2 (fun y => decide (((cntB a2 b2 (fun x => decide (farI y mid ≤ farI x mid)) : Nat) : Int) * den ≤ v0 * ((cntB a2 b2 (fun _ => true) : Nat) : Int))) := by rw [kF, HQ.out.2.2.2.1, HQ.out.2.2.1]
    rw [← hkF, ← kM] at hlv
    have hm1 := mul_in (x := (F : Int)) (y := den) (p := 256) (q := 256) (by omega) (by have := HVD.out; omega)
    have hm2 := mul_in (x := v0) (y := (M : Int)) (p := 255) (q := 256) (by have := HVD.out; omega) (by omega)
    have hw1 : wrap64 ((F : Int) * den) = (F : Int) * den := w64' _ (by omega) (by omega)
    have hw2 : wrap64 (v0 * (M : Int)) = v0 * (M : Int) := w64' _ (by omega) (by omega)
    have z5 : decide ((F : Int) * den ≤ v0 * (M : Int)) = true := decide_eq_true hlv
    have K7x := Aside0.mk (blk_below2 HBw.out K7.out)
    have f0 := (blk_cell K7x.out 0).trans rfl
    have f1 := (blk_cell K7x.out 1).trans rfl
    clear hF hM bF bM hTT hTN kF kM hkF hm1 hm2
    go_wp2_with fail
    refine (works_calls _).mono ?_
    rintro e w7 ⟨rfl, hb⟩
    have HB7 := Aside0.mk (HBw.out.trans (hb.mono HBw.out.size))
    clear hb HBw f0 f1
    go_wp2
    go_ret
    exact ⟨rfl, HB4.out.trans (HB7.out.mono HB4.out.size)⟩

end Go.Proofs.Ythddeillkdediaa.H
