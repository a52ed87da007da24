/- Texts TA, TB, U7, UA of this chapter, one behind the other. -/
import Derived.Carry
import Derived.ChangeSlices
import Derived.Laws.IdiomArrays
import Derived.Lib.SmallJoins
import Derived.LoopIn
import Derived.LoopNIn
import Derived.OpenShut
import Derived.OwnWalkIn
import Derived.TacticsInMore
import Derived.WideShapes
import Derived.Test.YthddeillkdediaaXG
import Derived.Test.YthddeillkdediaaXH
import Derived.Test.YthddeillkdediaaXI
import Derived.Test.YthddeillkdediaaXJ

/- Arguments of chapter 10's laws, opened. -/
namespace Go.Proofs.Ythddeillkdediaa.H
open Go.RowKit Go.Proofs.YthddeillkdediaaW.PrintWords Go.Proofs.YthddeillkdediaaW.PrintLast Go.Proofs.YthddeillkdediaaW.PrintMore
open Go.Shelf Go.Proofs.Ythddeillkdediaa.QA
open Go.ChangeShapes Go.WideShapes Go.Joins
set_option linter.unusedVariables false
set_option linter.unusedSimpArgs false


def isByte (a : Int) : Prop := 0 ≤ a ∧ a ≤ 255
theorem wf_byte {a : Int} (h : (Lit.int .u8 a).wf = true) : isByte a := by
 simp [Lit.wf, IntKind.min, IntKind.max, IntKind.signed, IntKind.bits] at h
 unfold isByte
 omega
set_option maxRecDepth 100000 in
theorem trod_nums {H : Type} {enc : TypeId × Value → H} {W : World} {base : Nat} {held : Bool} {fuel : Nat} {v : Value} {x : DataW H × List MemPlace} {t e : TypeId} {k : IntKind}
    (ut : Try.prog.underlying t = some (.slice e)) (ue : Try.prog.underlying e = some (.int k)) (ce : Try.prog.cellsOf e = 1) (hf : DataW.trod enc Try.prog W base (fun _ => true) held fuel t [v] = some x) :
    ∃ (A : Option Addr) (c : Nat) (l : List Int), v = .slice A l.length c ∧ l.length ≤ c ∧ Kd.C (Kd.int k) W A l.length l ∧ ∀ n ∈ l, (Lit.int k n).wf = true := by
  have key : ∃ (A : Option Addr) (len cap : Nat) (zs : List Int), v = .slice A len cap ∧ ((A = none ∧ len = 0 ∧ cap = 0 ∧ zs = []) ∨ ∃ x, A = some x ∧ len ≤ cap ∧ cap ≤ maxLen ∧ zs.length = cap ∧ (∀ i, i < zs.length → W.cell? (x.add i) = some (.int k (zs.getD i 0))) ∧ ∀ n ∈ zs, (Lit.int k n).wf = true) := by
    rcases open_ints ut ue ce hf with ⟨hcs, _⟩ | ⟨x, l, c, zs, hcs, _, hl, hm, hz, _, hcell, hwz⟩
    · simp at hcs
      subst hcs
      exact ⟨none, 0, 0, [], rfl, .inl ⟨rfl, rfl, rfl, rfl⟩⟩
    · simp at hcs
      subst hcs
      exact ⟨_, _, _, zs, rfl, .inr ⟨_, rfl, hl, hm, by simpa using hz, hcell, hwz⟩⟩
  obtain ⟨A, len, cap, zs, rfl, w⟩ := key
  obtain ⟨l, rfl, hr, hm, hw, hc⟩ := ReadsInt.ofRowC w
  exact ⟨A, cap, l, rfl, hc, Kd.C_of_reads (d := (0 : Int)) (h1 := fun _ => rfl) hr, hw⟩
theorem und49 : Try.prog.underlying 49 = some (.slice 5) := by kernel_rfl
theorem und5 : Try.prog.underlying 5 = some (.int .u8) := by kernel_rfl
theorem array3_ {α : Type} {cs : Array α} (h : cs.size = 3) : ∃ c0 c1 c2, cs = #[c0, c1, c2] := by
 obtain ⟨l⟩ := cs
 match l, h with
 | [c0, c1, c2], _ => exact ⟨c0, c1, c2, rfl⟩
set_option maxRecDepth 100000 in
theorem open_touch {H : Type} {enc : TypeId × Value → H} {W : World} {r : Reach} {b0 : Nat} {v : Value} {d : DataW H} {p : List MemPlace}
  (hv : Value.okWide Try.prog W r b0 51 v) (h : DataW.Trod enc Try.prog W 0 (fun _ => true) true 51 v d p) :
  ∃ A c l B e m x, v = .agg #[.slice A l.length c, .slice B m.length e, .int .u8 x] ∧ (l.length ≤ c ∧ m.length ≤ e) ∧ Kd.C (Kd.int .u8) W A l.length l ∧ Kd.C (Kd.int .u8) W B m.length m ∧ (∀ n ∈ l, isByte n) ∧ (∀ n ∈ m, isByte n) ∧ isByte x := by
 have e51 : Try.prog.cellsOf 51 = 3 := by kernel_rfl
 have e49 : Try.prog.cellsOf 49 = 1 := by kernel_rfl
 have e5 : Try.prog.cellsOf 5 = 1 := by kernel_rfl
 obtain ⟨cs, rfl, hsz⟩ := okWide_struct Try.underlying51 hv
 obtain ⟨c0, c1, c2, rfl⟩ := array3_ (hsz.trans e51)
 obtain ⟨fuel, hf⟩ := h
 obtain ⟨xs, m, _, _, _, hl, hi⟩ := DataW.trod_struct Try.underlying51 hf
 match xs, hl with
 | [y0, y1, y2], _ =>
  have t0 := hi 0 _ rfl
  have t1 := hi 1 _ rfl
  have t2 := hi 2 _ rfl
  replace t0 : DataW.trod enc Try.prog W 0 (fun _ => true) true m 49 [c0] = some y0 := by simpa [Value.cells, e49, e5] using t0
  replace t1 : DataW.trod enc Try.prog W 0 (fun _ => true) true m 49 [c1] = some y1 := by simpa [Value.cells, e49, e5] using t1
  replace t2 : DataW.trod enc Try.prog W 0 (fun _ => true) true m 5 [c2] = some y2 := by simpa [Value.cells, e49, e5] using t2
  obtain ⟨A, c, l, rfl, h1, h2, h3⟩ := trod_nums und49 und5 e5 t0
  obtain ⟨B, e, n, rfl, k1, k2, k3⟩ := trod_nums und49 und5 e5 t1
  obtain ⟨x, r2, _, v2⟩ := DataW.trod_int und5 t2
  simp only [List.cons.injEq, and_true] at r2
  subst r2
  exact ⟨A, c, l, B, e, n, x, rfl, ⟨h1, k1⟩, h2, k2, fun n hn => wf_byte (h3 n hn), fun n hn => wf_byte (k3 n hn), wf_byte v2⟩
end Go.Proofs.Ythddeillkdediaa.H

/- Bytes, opened. -/
namespace Go.Proofs.Ythddeillkdediaa.H
open Go.RowKit Go.Proofs.YthddeillkdediaaW.PrintWords Go.Proofs.YthddeillkdediaaW.PrintLast Go.Proofs.YthddeillkdediaaW.PrintMore
open Go.Shelf Go.Proofs.Ythddeillkdediaa.QA
open Go.ChangeShapes Go.WideShapes Go.Joins
set_option linter.unusedVariables false
set_option linter.unusedSimpArgs false

set_option maxRecDepth 100000 in
theorem open_bytes1 {H : Type} {enc : TypeId × Value → H} {W : World} {r : Reach} {b0 : Nat} {v : Value} {d : DataW H} {p : List MemPlace}
  (hv : Value.okWide Try.prog W r b0 49 v) (h : DataW.Trod enc Try.prog W 0 (fun _ => true) true 49 v d p) :
  ∃ (A : Option Addr) (c : Nat) (l : List Int), v = .slice A l.length c ∧ l.length ≤ c ∧ Kd.C (Kd.int .u8) W A l.length l ∧ ∀ n ∈ l, isByte n := by
 have e5 : Try.prog.cellsOf 5 = 1 := by kernel_rfl
 obtain ⟨fuel, hf⟩ := h
 obtain ⟨A, len, cap, rfl⟩ := okWide_slice und49 hv
 obtain ⟨A2, c, l, e, h1, h2, h3⟩ := trod_nums und49 und5 e5 (show DataW.trod enc Try.prog W 0 (fun _ => true) true fuel 49 [.slice A len cap] = some (d, p) by simpa [Value.cells] using hf)
 cases e
 exact ⟨A, cap, l, rfl, h1, h2, fun n hn => wf_byte (h3 n hn)⟩

end Go.Proofs.Ythddeillkdediaa.H

/- pianolalaw10.HandSwaps. -/
namespace Go.Proofs.Ythddeillkdediaa.H
open Go.RowKit Go.Proofs.YthddeillkdediaaW.PrintWords Go.Proofs.YthddeillkdediaaW.PrintLast Go.Proofs.YthddeillkdediaaW.PrintMore
open Go.Shelf Go.Proofs.Ythddeillkdediaa.QA
set_option linter.unusedVariables false
set_option linter.unusedSimpArgs false


theorem min2_mn (k k' : IntKind) (x y : Int) : Builtin.min2 (.int k x) (.int k' y) = pure (.int k (mn x y)) := min2_int k k' x y
structure BK2 (g1 g2 : Nat) (v0 v1 p1 p2 : Int) (w : World) : Prop where
  k1 : w.heap[g1]? = some (.cells #[.int .i64 v0, .int .i64 v1] 34 (0, 0))
  k2 : w.heap[g2]? = some (.cells #[.int .i64 p1, .int .i64 p2] 34 (0, 0))
theorem BK2.below {g1 g2 : Nat} {v0 v1 p1 p2 : Int} {w w' : World} (h : BK2 g1 g2 v0 v1 p1 p2 w) (hb : Below w.heap.size w w') : BK2 g1 g2 v0 v1 p1 p2 w' := ⟨blk_below2 hb h.k1, blk_below2 hb h.k2⟩
attribute [local go_sem] min2_mn min_two
end Go.Proofs.Ythddeillkdediaa.H

/- pianolalaw10.HandTrue. -/
namespace Go.Proofs.Ythddeillkdediaa.H
open Go.RowKit Go.Proofs.YthddeillkdediaaW.PrintWords Go.Proofs.YthddeillkdediaaW.PrintLast Go.Proofs.YthddeillkdediaaW.PrintMore
open Go.Shelf Go.Proofs.Ythddeillkdediaa.QA
set_option linter.unusedVariables false
set_option linter.unusedSimpArgs false

def ut14_T : Bool × List (List Nat × List Nat) := (true, [([], []), ([], []), ([1], [1]), ([2], [2]), ([], []), ([4], [4]), ([3, 5], [3, 5]), ([0, 0, 1, 2, 3, 4, 5, 6], [0]), ([7, 6, 6, 0, 1, 2, 3, 4, 5, 6], [6, 7])])
def ut14_B : List Nat := [0, 0, 2, 6, 0, 16, 62, 127, 255]
theorem ut14_tab : rtab .any (opsOf Try.f12 14) = ut14_T := by kernel_rfl
theorem ut14_bits : waitsOk ut14_T.2 ut14_B = true := by kernel_rfl
def ut23_T : Bool × List (List Nat × List Nat) := (true, [([], []), ([0], [0]), ([1], [1]), ([2], [2]), ([3, 2], [2, 3]), ([2, 4], [2, 4]), ([5, 2], [5]), ([6], [6]), ([6], [6]), ([8, 6], [6, 8]), ([7, 9, 6], [6, 7, 9]), ([6, 10], [6, 10]), ([11, 6], [11]), ([12], [12]), ([12], [12]), ([14, 12], [12, 14]), ([13, 15, 12], [12, 13, 15]), ([12, 16], [12, 16]), ([17, 12], [17]), ([18], [18]), ([18], [18]), ([20, 18], [18, 20]), ([18], [18]), ([22, 18], [18, 22]), ([21, 23, 18, 18], [18, 21, 23]), ([18], [18]), ([25, 18], [18, 25]), ([18], [18]), ([27, 18], [18, 27]), ([26, 28, 24, 18], [18, 26, 28]), ([24, 29, 18], [18, 24, 29]), ([19, 30, 18], [18, 19, 30]), ([18, 31], [18, 31]), ([32, 29], [32]), ([33], [33]), ([34, 33], [33, 34]), ([33], [33]), ([36, 33], [33, 36]), ([35, 37, 33], [33, 35, 37]), ([33, 38], [33, 38]), ([39, 33], [39]), ([40], [40]), ([41, 40], [40, 41]), ([40], [40]), ([43, 40], [40, 43]), ([42, 44, 40], [40, 42, 44]), ([40, 45], [40, 45]), ([46, 40], [46]), ([47], [47]), ([47], [47]), ([49, 47], [47, 49]), ([48, 50, 47], [47, 48, 50]), ([47, 51], [47, 51]), ([52, 47], [52]), ([53], [53]), ([53], [53]), ([55, 53], [53, 55]), ([54, 56, 53], [53, 54, 56]), ([53, 57], [53, 57]), ([58, 53], [58]), ([59, 59], [59]), ([59, 60], [59, 60]), ([61, 60, 0, 1, 2, 3, 4, 5, 6, 7, 8, 9, 10, 11, 12, 13, 14, 15, 16, 17, 18, 19, 20, 21, 22, 23, 24, 25, 26, 27, 28, 29, 30, 31, 32, 33, 34, 35, 36, 37, 38, 39, 40, 41, 42, 43, 44, 45, 46, 47, 48, 49, 50, 51, 52, 53, 54, 55, 56, 57, 58, 59, 60, 61], [61])])
def ut23_B : List Nat := [0, 1, 3, 7, 15, 31, 63, 127, 127, 383, 1023, 2047, 4095, 8191, 8191, 24575, 65535, 131071, 262143, 524287, 524287, 1572863, 524287, 4718591, 16252927, 524287, 34078719, 524287, 134742015, 536346623, 1073217535, 2147483647, 4294967295, 8589934591, 17179869183, 34359738367, 17179869183, 85899345919, 274877906943, 549755813887, 1099511627775, 2199023255551, 4398046511103, 2199023255551, 10995116277759, 35184372088831, 70368744177663, 140737488355327, 281474976710655, 281474976710655, 844424930131967, 2251799813685247, 4503599627370495, 9007199254740991, 18014398509481983, 18014398509481983, 54043195528445951, 144115188075855871, 288230376151711743, 576460752303423487, 1152921504606846975, 2305843009213693951, 4611686018427387903]
theorem ut23_tab : rtab .any (opsOf Try.f12 23) = ut23_T := by kernel_rfl
theorem ut23_bits : waitsOk ut23_T.2 ut23_B = true := by kernel_rfl

theorem w64s {x : Int} (h : -1000 ≤ x ∧ x ≤ 1000) : wrap64 x = x := w64' _ (by omega) (by omega)
set_option maxRecDepth 100000 in
set_option maxHeartbeats 16000000 in
theorem handTrue_calls (A0 : Option Addr) (c0 : Nat) (l0 : List Int) (A1 : Option Addr) (c1 : Nat) (l1 : List Int) (x : Int) (A2 : Option Addr) (c2 : Nat) (l2 : List Int) (A3 : Option Addr) (c3 : Nat) (l3 : List Int) (w : World) (hc : l0.length ≤ c0 ∧ l1.length ≤ c1) (hC0 : Kd.C (Kd.int .u8) w A0 l0.length l0) (hC1 : Kd.C (Kd.int .u8) w A1 l1.length l1) (hl : ∀ n ∈ l0, 0 ≤ n ∧ n ≤ 255) (hm : ∀ n ∈ l1, 0 ≤ n ∧ n ≤ 255) (hx : 0 ≤ x ∧ x ≤ 255)
  (hc2 : l2.length ≤ c2) (hC2 : Kd.C (Kd.int .u8) w A2 l2.length l2) (hl2 : ∀ n ∈ l2, 0 ≤ n ∧ n ≤ 255) (hc3 : l3.length ≤ c3) (hC3 : Kd.C (Kd.int .u8) w A3 l3.length l3) (hl3 : ∀ n ∈ l3, 0 ≤ n ∧ n ≤ 255) :
  Calls Try.prog 12 #[.agg #[.slice A0 l0.length c0, .slice A1 l1.length c1, .int .u8 x], .slice A2 l2.length c2, .slice A3 l3.length c3] w fun e w' => e = .returned (.bool true) ∧ Below w.heap.size w w' := by
 have hu51 := Try.underlying51
 have hu41 := Try.underlying41
 have hu63 : Try.prog.underlying 63 = some (.array 2 22) := by kernel_rfl
 have hu68 : Try.prog.underlying 68 = some (.array 2 39) := by kernel_rfl
 have hu45 : Try.prog.underlying 45 = some (.slice 22) := by kernel_rfl
 have hu39 : Try.prog.underlying 39 = some (.slice 41) := by kernel_rfl
 obtain ⟨a, b, hmd, sa, sb⟩ := made_f l0 l1 hl hm x hx 20 (by omega)
 have HB := Aside0.mk (below_alloc (Below.refl w.heap.size w) (.cells #[.slice A0 l0.length c0, .slice A1 l1.length c1, .int .u8 x] 51))
 have K1 := Aside0.mk (blk_new w (.cells #[.slice A0 l0.length c0, .slice A1 l1.length c1, .int .u8 x] 51))
 have H0 := Aside0.mk (Kd.C_below hC0 HB.out)
 have H1 := Aside0.mk (Kd.C_below hC1 HB.out)
 have HA := Aside0.mk hc
 have HM := Aside0.mk hmd
 have HS := Aside0.mk (And.intro sa sb)
 have HW := Aside0.mk (And.intro hc2 (And.intro (Kd.C_below hC2 HB.out) hl2))
 have HT := Aside0.mk (And.intro hc3 (And.intro (Kd.C_below hC3 HB.out) hl3))
 clear hC0 hC1 hc hmd hl hm hx sa sb hC2 hC3 hc2 hc3 hl2 hl3
 have k0 := (blk_cell K1.out 0).trans rfl
 have k1 := (blk_cell K1.out 1).trans rfl
 have k2 := (blk_cell K1.out 2).trans rfl
 go_enter Try.func12, Try.ntmps12
 go_wp2_with fail
 refine (pianolalaw10_Touch_made.calls 20 A0 c0 l0 A1 c1 l1 x a b _ H0.out HA.out.1 H1.out HA.out.2 HM.out).mono ?_
 rintro e w1 ⟨va, vb, rfl, hRa, hRb, hb⟩
 have HB1 := Aside0.mk (HB.out.trans (hb.mono HB.out.size))
 have HW1 := Aside0.mk (And.intro HW.out.1 (And.intro (Kd.C_below HW.out.2.1 hb) HW.out.2.2))
 have HT1 := Aside0.mk (And.intro HT.out.1 (And.intro (Kd.C_below HT.out.2.1 hb) HT.out.2.2))
 obtain ⟨Aa, ca, rfl, hca, hCa⟩ := Kd.R_reads hRa
 obtain ⟨Ab, cb, rfl, hcb, hCb⟩ := Kd.R_reads hRb
 obtain ⟨ada, rfl⟩ := C_some hCa (by have := HS.out.1.1; omega)
 obtain ⟨adb, rfl⟩ := C_some hCb (by have := HS.out.2.1; omega)
 have HCa := Aside0.mk (And.intro hca hCa)
 have HCb := Aside0.mk (And.intro hcb hCb)
 clear hb hRa hRb hca hCa hcb hCb k0 k1 k2 K1 H0 H1 HM HB HW HT HA
 go_wp2
 obtain ⟨g10, hg10⟩ : ∃ g, g = w1.heap.size := ⟨_, rfl⟩
 obtain ⟨g11, hg11⟩ : ∃ g, g = w1.heap.size + 1 := ⟨_, rfl⟩
 obtain ⟨g12, hg12⟩ : ∃ g, g = w1.heap.size + 1 + 1 := ⟨_, rfl⟩
 obtain ⟨g13, hg13⟩ : ∃ g, g = w1.heap.size + 1 + 1 + 1 := ⟨_, rfl⟩
 obtain ⟨g14, hg14⟩ : ∃ g, g = w1.heap.size + 1 + 1 + 1 + 1 := ⟨_, rfl⟩
 obtain ⟨g34, hg34⟩ : ∃ g, g = w1.heap.size + 1 + 1 + 1 + 1 + 1 := ⟨_, rfl⟩
 obtain ⟨wS, hwS⟩ : ∃ W : World, W = ((((((w1.alloc (.cells #[.slice none 0 0, .slice none 0 0] 68)).alloc (.cells #[.slice none 0 0, .slice none 0 0] 68)).alloc (.cells #[.slice none 0 0, .slice none 0 0] 63)).alloc (.cells #[.slice none 0 0, .slice none 0 0] 63)).alloc (.cells #[.slice none 0 0, .slice none 0 0] 63)).alloc (.cells #[.slice (some ada) a.length ca, .slice (some adb) b.length cb] 22)) := ⟨_, rfl⟩
 obtain ⟨B0, hB0⟩ : ∃ B, B = g34 + 1 := ⟨_, rfl⟩
 have hs1 : (w1.alloc (.cells #[.slice none 0 0, .slice none 0 0] 68)).heap.size = w1.heap.size + 1 := by simp
 have hs2 : ((w1.alloc (.cells #[.slice none 0 0, .slice none 0 0] 68)).alloc (.cells #[.slice none 0 0, .slice none 0 0] 68)).heap.size = w1.heap.size + 1 + 1 := by simp
 have hs3 : (((w1.alloc (.cells #[.slice none 0 0, .slice none 0 0] 68)).alloc (.cells #[.slice none 0 0, .slice none 0 0] 68)).alloc (.cells #[.slice none 0 0, .slice none 0 0] 63)).heap.size = w1.heap.size + 1 + 1 + 1 := by simp
 have hs4 : ((((w1.alloc (.cells #[.slice none 0 0, .slice none 0 0] 68)).alloc (.cells #[.slice none 0 0, .slice none 0 0] 68)).alloc (.cells #[.slice none 0 0, .slice none 0 0] 63)).alloc (.cells #[.slice none 0 0, .slice none 0 0] 63)).heap.size = w1.heap.size + 1 + 1 + 1 + 1 := by simp
 have hs5 : (((((w1.alloc (.cells #[.slice none 0 0, .slice none 0 0] 68)).alloc (.cells #[.slice none 0 0, .slice none 0 0] 68)).alloc (.cells #[.slice none 0 0, .slice none 0 0] 63)).alloc (.cells #[.slice none 0 0, .slice none 0 0] 63)).alloc (.cells #[.slice none 0 0, .slice none 0 0] 63)).heap.size = w1.heap.size + 1 + 1 + 1 + 1 + 1 := by simp
 have hs6 : wS.heap.size = B0 := by rw [hwS, hB0, hg34]; simp
 have k0 : wS.heap[g10]? = some (.cells #[.slice none 0 0, .slice none 0 0] 68 (0, 0)) := by rw [hwS, hg10]; exact blk_alloc (blk_alloc (blk_alloc (blk_alloc (blk_alloc (blk_new _ _) _) _) _) _) _
 have k1 : wS.heap[g11]? = some (.cells #[.slice none 0 0, .slice none 0 0] 68 (0, 0)) := by rw [hwS, hg11, ← hs1]; exact blk_alloc (blk_alloc (blk_alloc (blk_alloc (blk_new _ _) _) _) _) _
 have k2 : wS.heap[g12]? = some (.cells #[.slice none 0 0, .slice none 0 0] 63 (0, 0)) := by rw [hwS, hg12, ← hs2]; exact blk_alloc (blk_alloc (blk_alloc (blk_new _ _) _) _) _
 have k3 : wS.heap[g13]? = some (.cells #[.slice none 0 0, .slice none 0 0] 63 (0, 0)) := by rw [hwS, hg13, ← hs3]; exact blk_alloc (blk_alloc (blk_new _ _) _) _
 have k4 : wS.heap[g14]? = some (.cells #[.slice none 0 0, .slice none 0 0] 63 (0, 0)) := by rw [hwS, hg14, ← hs4]; exact blk_alloc (blk_new _ _) _
 have k5 : wS.heap[g34]? = some (.cells #[.slice (some ada) a.length ca, .slice (some adb) b.length cb] 22 (0, 0)) := by rw [hwS, hg34, ← hs5]; exact blk_new _ _
 have HGG := Aside0.mk (show G5 w1.heap.size B0 g10 g11 g12 g13 g14 g34 from ⟨by omega, by omega, by omega, by omega⟩)
 have HC0 := Aside0.mk (C5.mk k0 k1 k2 k3 k4 k5 : C5 wS g10 g11 g12 g13 g14 g34 #[.slice (some ada) a.length ca, .slice (some adb) b.length cb] (.slice none 0 0) (.slice none 0 0) (.slice none 0 0) (.slice none 0 0) (.slice none 0 0) (.slice none 0 0) (.slice none 0 0) (.slice none 0 0) (.slice none 0 0) (.slice none 0 0))
 have hbS : Below w1.heap.size w1 wS := by rw [hwS]; exact below_alloc (below_alloc (below_alloc (below_alloc (below_alloc (below_alloc (Below.refl _ _) _) _) _) _) _) _
 have HBS := Aside0.mk (And.intro hbS (Nat.le_of_eq hs6.symm))
 rw [← hwS, ← hg34, ← hg14, ← hg13, ← hg12, ← hg11, ← hg10]
 clear hwS hB0 hs1 hs2 hs3 hs4 hs5 hs6 k0 k1 k2 k3 k4 k5 hbS hg10 hg11 hg12 hg13 hg14 hg34
 go_loopw [15, 36] (fun s15 s36 wr => ∃ (k cn : Nat) (e0 f0 e1 f1 e2 f2 e3 f3 e4 f4 : Value), s15 = .int .i64 cn ∧ s36 = .int .i64 k ∧ Aside0 (k ≤ 2) ∧ Aside0 (cn = if k = 0 then 0 else if k = 1 then a.length else cn) ∧ Aside0 (C5 wr g10 g11 g12 g13 g14 g34 #[.slice (some ada) a.length ca, .slice (some adb) b.length cb] e0 f0 e1 f1 e2 f2 e3 f3 e4 f4) ∧ Aside0 (Below w1.heap.size w1 wr ∧ B0 ≤ wr.heap.size) ∧ Aside0 (if k = 0 then (e0 = .slice none 0 0 ∧ e1 = .slice none 0 0 ∧ e2 = .slice none 0 0 ∧ e3 = .slice none 0 0 ∧ e4 = .slice none 0 0) else O5 wr B0 e0 e1 e2 e3 e4 (spF a l2 0 a.length) (clF a l2 l3 0 a.length) (trF a l2 l3 0 a.length) (loF a a.length) (hiF a l2 0 a.length)) ∧ Aside0 (if k ≤ 1 then (f0 = .slice none 0 0 ∧ f1 = .slice none 0 0 ∧ f2 = .slice none 0 0 ∧ f3 = .slice none 0 0 ∧ f4 = .slice none 0 0) else O5 wr B0 f0 f1 f2 f3 f4 (spF b l2 a.length b.length) (clF b l2 l3 a.length b.length) (trF b l2 l3 a.length b.length) (loF b b.length) (hiF b l2 a.length b.length))) (fun _ s36 _ => 2 - (intOf s36).toNat)
 case atStart => exact ⟨0, 0, .slice none 0 0, .slice none 0 0, .slice none 0 0, .slice none 0 0, .slice none 0 0, .slice none 0 0, .slice none 0 0, .slice none 0 0, .slice none 0 0, .slice none 0 0, rfl, rfl, ⟨by omega⟩, ⟨rfl⟩, HC0, HBS, ⟨by rw [if_pos rfl]; exact ⟨rfl, rfl, rfl, rfl, rfl⟩⟩, ⟨by rw [if_pos (by omega)]; exact ⟨rfl, rfl, rfl, rfl, rfl⟩⟩⟩
 case round =>
  clear HC0 HBS wS
  obtain ⟨k, cn, e0, f0, e1, f1, e2, f2, e3, f3, e4, f4, rfl, rfl, HK, HCN, HCC, HBO, HOA, HOB⟩ := hrel
  match k, HK, HCN, HOA, HOB with
  | 0, HK, HCN, HOA, HOB =>
    have ha := HOA.out
    have hb := HOB.out
    rw [if_pos rfl] at ha
    rw [if_pos (by omega)] at hb
    obtain ⟨rfl, rfl, rfl, rfl, rfl⟩ := ha
    obtain ⟨rfl, rfl, rfl, rfl, rfl⟩ := hb
    clear HOA HOB
    rw [show ((0 : Nat) : Int) = (0 : Int) from rfl]
    have f34 := (blk_cell HCC.out.k34 0).trans rfl
    obtain ⟨wO, hwO⟩ : ∃ W : World, W = wr := ⟨_, rfl⟩
    subst hwO
    go_wp2
    have HS0 := Aside0.mk (St.mk HGG.out HCC.out KeepF.refl O5.nil HBO.out.1 ⟨HBO.out.2, Nat.le_refl _⟩ : St wO wO w1 B0 g10 g11 g12 g13 g14 g34 #[.slice (some ada) a.length ca, .slice (some adb) b.length cb] (.slice none 0 0) (.slice none 0 0) (.slice none 0 0) (.slice none 0 0) (.slice none 0 0) (.slice none 0 0) (.slice none 0 0) (.slice none 0 0) (.slice none 0 0) (.slice none 0 0) (.slice none 0 0) (.slice none 0 0) (.slice none 0 0) (.slice none 0 0) (.slice none 0 0) (spF a l2 0 0) (clF a l2 l3 0 0) (trF a l2 l3 0 0) (loF a 0) (hiF a l2 0 0))
    go_loopw [15, 43] (fun s15 s43 wi => ∃ (i cn : Nat) (v0 v1 v2 v3 v4 : Value), s15 = .int .i64 cn ∧ s43 = .int .i64 i ∧ Aside0 (i ≤ a.length ∧ cn = 0 + i) ∧ Aside0 (St wi wO w1 B0 g10 g11 g12 g13 g14 g34 #[.slice (some ada) a.length ca, .slice (some adb) b.length cb] v0 (.slice none 0 0) v1 (.slice none 0 0) v2 (.slice none 0 0) v3 (.slice none 0 0) v4 (.slice none 0 0) v0 v1 v2 v3 v4 (spF a l2 0 i) (clF a l2 l3 0 i) (trF a l2 l3 0 i) (loF a i) (hiF a l2 0 i))) (fun _ s43 _ => a.length - (intOf s43).toNat)
    case atStart => exact ⟨0, cn, .slice none 0 0, .slice none 0 0, .slice none 0 0, .slice none 0 0, .slice none 0 0, rfl, rfl, ⟨⟨Nat.zero_le _, HCN.out⟩⟩, HS0⟩
    case round =>
     clear HS0 f34 HCC HBO HCN
     obtain ⟨i, cn, v0, v1, v2, v3, v4, rfl, rfl, HI, HST⟩ := hrel
     by_cases hj : i < a.length
     · have n1 : i < a.length := hj
       have hd : decide ((i : Int) < (a.length : Int)) = true := decide_eq_true (by omega)
       clear hj
       have hl5 := HS.out.1.2.1
       have hl5a := HS.out.1.2.1
       obtain ⟨v, hv⟩ : ∃ v, v = rd a (i : Int) := ⟨_, rfl⟩
       have hvb := HS.out.1.2.2 _ (rd_mem a n1)
       obtain ⟨p, hp⟩ : ∃ p, p = wdN l2 0 i := ⟨_, rfl⟩
       obtain ⟨q, hq⟩ : ∃ q, q = ltN l2 l3 0 i := ⟨_, rfl⟩
       obtain ⟨m2, hm2⟩ : ∃ m, m = q / 2 := ⟨_, rfl⟩
       have hb12 := lt_wd l2 l3 0 i
       rw [← hp, ← hq] at hb12
       have hcn := HI.out.2
       have hpN : p = pickN l2 cn 12 := by rw [hp, hcn]; rfl
       have hqN : q = pickN l3 cn p := by rw [hq, hp, hcn]; rfl
       obtain ⟨hh, hhh⟩ : ∃ h, h = v + (p : Int) := ⟨_, rfl⟩
       obtain ⟨tt, htt⟩ : ∃ h, h = v + (q : Int) := ⟨_, rfl⟩
       obtain ⟨mm, hmm⟩ : ∃ h, h = v + (m2 : Int) := ⟨_, rfl⟩
       rw [← hv] at hvb
       have hA : hh - v = (p : Int) := by omega
       have hB : tt - v = (q : Int) := by omega
       have e5 : Int.tdiv (q : Int) 2 = (m2 : Int) := by rw [hm2]; exact (Int.ofNat_tdiv q 2).symm
       have hbd1 : -1000 ≤ v + (p : Int) ∧ v + (p : Int) ≤ 1000 := by omega
       have hbd2 : -1000 ≤ (p : Int) ∧ (p : Int) ≤ 1000 := by omega
       have hbd3 : -1000 ≤ v + (q : Int) ∧ v + (q : Int) ≤ 1000 := by omega
       have hbd4 : -1000 ≤ (q : Int) ∧ (q : Int) ≤ 1000 := by omega
       have hm12 : m2 ≤ 12 := by omega
       have hbd5 : -1000 ≤ (m2 : Int) ∧ (m2 : Int) ≤ 1000 := by omega
       have hbd6 : -1000 ≤ v + (m2 : Int) ∧ v + (m2 : Int) ≤ 1000 := by omega
       have hcp : cn ≤ 1000 ∧ p ≤ 1000 := by omega
       have hrl : i + 1 ≤ 1000 ∧ i + 1 ≤ 1000 ∧ i ≤ 1000 ∧ i ≤ 1000 ∧ i ≤ 1000 := by omega
       have e1 : wrap64 (v + (p : Int)) = hh := by rw [hhh]; exact w64s hbd1
       have e2 : wrap64 (hh - v) = (p : Int) := by rw [hA]; exact w64s hbd2
       have e3 : wrap64 (v + (q : Int)) = tt := by rw [htt]; exact w64s hbd3
       have e4 : wrap64 (tt - v) = (q : Int) := by rw [hB]; exact w64s hbd4
       have e6 : wrap64 (m2 : Int) = (m2 : Int) := w64s hbd5
       have e7 : wrap64 (v + (m2 : Int)) = mm := by rw [hmm]; exact w64s hbd6
       have HR := Aside0.mk (show (spF a l2 0 i) ++ [⟨v, hh⟩] = (spF a l2 0 (i + 1)) ∧ (clF a l2 l3 0 i) ++ [⟨mm, tt⟩] = (clF a l2 l3 0 (i + 1)) ∧ (trF a l2 l3 0 i) ++ [tt] = (trF a l2 l3 0 (i + 1)) ∧ (loF a i) ++ [v] = (loF a (i + 1)) ∧ (hiF a l2 0 i) ++ [hh] = (hiF a l2 0 (i + 1)) by
        unfold spF clF trF loF hiF
        rw [range_map1, range_map1, range_map1, range_map1, range_map1, hhh, hmm, htt, hm2, hp, hq, hv]
        exact ⟨rfl, rfl, rfl, rfl, rfl⟩)
       have HRL := Aside0.mk (show (spF a l2 0 i).length + 1 ≤ 1000 ∧ (clF a l2 l3 0 i).length + 1 ≤ 1000 ∧ (trF a l2 l3 0 i).length ≤ 1000 ∧ (loF a i).length ≤ 1000 ∧ (hiF a l2 0 i).length ≤ 1000 by unfold spF clF trF loF hiF; rw [range_len, range_len, range_len, range_len, range_len]; exact hrl)
       have HPQ := Aside0.mk (And.intro hpN (And.intro hqN hcp))
       have hcv := rd_cell (Kd.C_below HCa.out.2 HST.out.b) i n1
       rw [← hv] at hcv
       clear hv hvb hp hq hm2 hb12 hcn hpN hqN hhh htt hmm hl5 hl5a hA hB hbd1 hbd2 hbd3 hbd4 hbd5 hbd6 hm12 hcp hrl
       go_wp2_with fail
       refine (pick12_calls A2 c2 l2 cn p _ (Kd.C_below HW1.out.2.1 HST.out.b) HW1.out.1 HW1.out.2.2 HPQ.out.2.2.1 HPQ.out.1).mono ?_
       rintro e w2 ⟨rfl, hb⟩
       have HST2 := Aside0.mk (HST.out.below hb)
       clear hb HST hcv
       have HN20_ := Aside0.mk (show (∀ k, v0.ownBlock = some k → k ≠ w2.heap.size) ∧ (∀ k, v1.ownBlock = some k → k ≠ w2.heap.size) ∧ (∀ k, v2.ownBlock = some k → k ≠ w2.heap.size) ∧ (∀ k, v3.ownBlock = some k → k ≠ w2.heap.size) ∧ (∀ k, v4.ownBlock = some k → k ≠ w2.heap.size) from ⟨fun k hk => Nat.ne_of_lt (HST2.out.o.o0.lt k hk).2, fun k hk => Nat.ne_of_lt (HST2.out.o.o1.lt k hk).2, fun k hk => Nat.ne_of_lt (HST2.out.o.o2.lt k hk).2, fun k hk => Nat.ne_of_lt (HST2.out.o.o3.lt k hk).2, fun k hk => Nat.ne_of_lt (HST2.out.o.o4.lt k hk).2⟩)
       have hb2 := below_alloc (Below.refl w2.heap.size w2) (.cells #[.int .i64 v, .int .i64 hh] 41)
       have k20 := blk_new w2 (.cells #[.int .i64 v, .int .i64 hh] 41)
       have HST3 := Aside0.mk (HST2.out.below hb2)
       have HG20_ := Aside0.mk (show B0 ≤ w2.heap.size from Nat.le_trans HST2.out.s.1 HST2.out.s.2)
       have K20_ := Aside0.mk k20
       clear hb2 k20 HST2
       go_wp2_with fail
       refine (pickn_calls A3 c3 l3 cn p q _ (Kd.C_below HT1.out.2.1 HST3.out.b) HT1.out.1 HT1.out.2.2 HPQ.out.2.2.1 HPQ.out.2.2.2 HPQ.out.2.1).mono ?_
       rintro e w3 ⟨rfl, hb⟩
       have HST4 := Aside0.mk (HST3.out.below hb)
       have k20 := blk_below2 hb K20_.out
       obtain ⟨g20, hg20⟩ : ∃ g, g = w2.heap.size := ⟨_, rfl⟩
       rw [← hg20] at k20 HN20_ HG20_ ⊢
       have K20 := Aside0.mk k20
       have HG20 := HG20_
       have HN20 := Aside0.mk (show v0.ownBlock ≠ some g20 ∧ v1.ownBlock ≠ some g20 ∧ v2.ownBlock ≠ some g20 ∧ v3.ownBlock ≠ some g20 ∧ v4.ownBlock ≠ some g20 from ⟨fun e => HN20_.out.1 _ e rfl, fun e => HN20_.out.2.1 _ e rfl, fun e => HN20_.out.2.2.1 _ e rfl, fun e => HN20_.out.2.2.2.1 _ e rfl, fun e => HN20_.out.2.2.2.2 _ e rfl⟩)
       clear hb k20 hg20 HST3 K20_ HN20_ HG20_
       go_upto_region 14 with fail
       have hbd : Below w3.heap.size w3 w3.drew := below_drew (Below.refl w3.heap.size w3)
       have HSD := Aside0.mk (HST4.out.below hbd)
       have K20D := Aside0.mk (blk_below2 hbd K20.out)
       clear hbd HST4 K20
       have K20 := K20D
       clear K20D
       have HSS := Aside0.mk (show (fun w' => w'.cell? ⟨g10, 0, none⟩ = some v0 ∧ w'.cell? ⟨g20, 0, none⟩ = some (.int .i64 v) ∧ w'.cell? ⟨g20, 1, none⟩ = some (.int .i64 hh)) w3.drew from ⟨(blk_cell (HSD.out.c.c0) 0).trans rfl, (blk_cell K20.out 0).trans rfl, (blk_cell K20.out 1).trans rfl⟩)
       refine start_ (n := 9) (S := fun w' => w'.cell? ⟨g10, 0, none⟩ = some v0 ∧ w'.cell? ⟨g20, 0, none⟩ = some (.int .i64 v) ∧ w'.cell? ⟨g20, 1, none⟩ = some (.int .i64 hh)) (ds := [8]) #[false, false, false, false, false, false, false, false, false] (by kernel_rfl) rfl rfl HSS.out (fun hHeld => ?_)
       refine with_tabW ut14_tab ut14_bits (fun HT_ HW_ => ?_)
       generalize w3.drew = wD at HSD K20 HSS hHeld ⊢
       refine take_ (i := 0) (N := some 65) (v := ?_) (a' := ?_) #[true, false, false, false, false, false, false, false, false] rfl rfl (take_ofW HT_.out HW_.out (by kernel_rfl)) (fun _ _ _ h => h) (Or.inl ⟨by rfl, ?_⟩) hHeld ?_ ?_
       rotate_left
       · rintro w' ⟨s0, s1, s2⟩
         go_simp
         with_reducible rfl
       rotate_left
       · simp only [Act.put, List.setIfInBounds_toArray, List.set_cons_zero, List.set_cons_succ, i64_w, i32_w]
         rfl
       refine take_ (i := 1) (N := some 66) (v := ?_) (a' := ?_) #[true, true, false, false, false, false, false, false, false] rfl rfl (take_ofW HT_.out HW_.out (by kernel_rfl)) (fun _ _ _ h => h) (Or.inl ⟨by rfl, ?_⟩) hHeld ?_ ?_
       rotate_left
       · rintro w' ⟨s0, s1, s2⟩
         go_simp
         with_reducible rfl
       rotate_left
       · simp only [Act.put, List.setIfInBounds_toArray, List.set_cons_zero, List.set_cons_succ, i64_w, i32_w]
         rfl
       refine take_ (i := 2) (N := some 67) (v := ?_) (a' := ?_) #[true, true, true, false, false, false, false, false, false] rfl rfl (take_ofW HT_.out HW_.out (by kernel_rfl)) (fun _ _ _ h => h) (Or.inl ⟨by rfl, ?_⟩) hHeld ?_ ?_
       rotate_left
       · rintro w' ⟨s0, s1, s2⟩
         go_simp
         with_reducible rfl
       rotate_left
       · simp only [Act.put, List.setIfInBounds_toArray, List.set_cons_zero, List.set_cons_succ, i64_w, i32_w]
         rfl
       refine take_ (i := 3) (N := some 68) (v := ?_) (a' := ?_) #[true, true, true, true, false, false, false, false, false] rfl rfl (take_ofW HT_.out HW_.out (by kernel_rfl)) (fun _ _ _ h => h) (Or.inl ⟨by rfl, ?_⟩) hHeld ?_ ?_
       rotate_left
       · rintro w' ⟨s0, s1, s2⟩
         go_simp
         with_reducible rfl
       rotate_left
       · simp only [Act.put, List.setIfInBounds_toArray, List.set_cons_zero, List.set_cons_succ, i64_w, i32_w]
         rfl
       refine take_ (i := 4) (N := some 69) (v := ?_) (a' := ?_) #[true, true, true, true, true, false, false, false, false] rfl rfl (take_ofW HT_.out HW_.out (by kernel_rfl)) (fun _ _ _ h => h) (Or.inl ⟨by rfl, ?_⟩) hHeld ?_ ?_
       rotate_left
       · rintro w' ⟨s0, s1, s2⟩
         go_simp
         with_reducible rfl
       rotate_left
       · simp only [Act.put, List.setIfInBounds_toArray, List.set_cons_zero, List.set_cons_succ, i64_w, i32_w]
         rfl
       refine one_ (i := 5) (N := some 70) #[true, true, true, true, true, true, false, false, false] rfl rfl (one_of HT_.out (by kernel_rfl)) (by decide) (fun K hK => ?_)
       refine value_ (v := .slice (some ⟨wD.heap.size, 0, none⟩) 1 1) (w1 := wD.alloc (.cells #[.int .i64 v, .int .i64 hh] 41)) (by rfl) rfl (by first | (go_simp; done) | (go_simp; rfl)) ?_
       have hb_ := below_alloc (Below.refl wD.heap.size wD) (.cells #[.int .i64 v, .int .i64 hh] 41)
       have HSE := Aside0.mk (HSD.out.below hb_)
       have K20E := Aside0.mk (blk_below2 hb_ K20.out)
       clear hb_ HSD K20
       have K20 := K20E
       clear K20E
       refine hK.out _ _ ⟨(blk_cell (HSE.out.c.c0) 0).trans rfl, (blk_cell K20.out 0).trans rfl, (blk_cell K20.out 1).trans rfl⟩ (fun _ => ?_)
       clear hK K
       refine norm_ (a' := ?_) ?_ ?_
       rotate_left
       · show Act.put _ (some 70) _ = _
         simp only [Act.put, List.setIfInBounds_toArray, List.set_cons_zero, List.set_cons_succ, i64_w, i32_w]
         rfl
       refine one_ (i := 6) (N := some 71) #[true, true, true, true, true, true, true, false, false] rfl rfl (one_of HT_.out (by kernel_rfl)) (by decide) (fun K hK => ?_)
       refine step_append_OwnSp (by rfl) (.tmp 68) (.tmp 70) rfl wO.heap.size v0 (spF a l2 0 i) [⟨v, hh⟩] rfl HSE.out.o.o0 ⟨wD.heap.size, 0, none⟩ 1 1 rfl rfl (one_cellSp wD v hh 41) (by have := HRL.out; omega) HSE.out.s.2 ?_
       intro v0' w4 hO hb hg ho
       have hst := HSE.out.app0 hO hb hg ho
       rw [HR.out.1] at hO hst
       obtain ⟨gq, cq, hq⟩ := hO.form (by unfold spF; rw [range_len]; omega)
       rw [show ((spF a l2 0 (i + 1))).length = i + 1 by unfold spF; rw [range_len]] at hq
       subst hq
       have HSF := Aside0.mk hst
       have K20F := Aside0.mk ((hg.block g20 (blk_lt2 K20.out) (fun e => HN20.out.1 e.symm)).trans K20.out)
       clear hO hb hg ho hst HSE K20
       have K20 := K20F
       clear K20F
       refine hK.out _ _ ⟨(blk_cell (HSF.out.c.c0) 0).trans rfl, (blk_cell K20.out 0).trans rfl, (blk_cell K20.out 1).trans rfl⟩ (fun _ => ?_)
       clear hK K
       refine norm_ (a' := ?_) ?_ ?_
       rotate_left
       · show Act.put _ (some 71) _ = _
         simp only [Act.put, List.setIfInBounds_toArray, List.set_cons_zero, List.set_cons_succ, i64_w, i32_w]
         rfl
       replace hHeld : (fun w' => w'.cell? ⟨g10, 0, none⟩ = some v0 ∧ w'.cell? ⟨g20, 0, none⟩ = some (.int .i64 v) ∧ w'.cell? ⟨g20, 1, none⟩ = some (.int .i64 hh)) w4 := ⟨(blk_cell (HSF.out.c.c0) 0).trans rfl, (blk_cell K20.out 0).trans rfl, (blk_cell K20.out 1).trans rfl⟩
       refine take_ (i := 7) (N := some 72) (v := ?_) (a' := ?_) #[true, true, true, true, true, true, true, true, false] rfl rfl (take_ofW HT_.out HW_.out (by kernel_rfl)) (fun _ _ _ h => h) (Or.inl ⟨by rfl, ?_⟩) hHeld ?_ ?_
       rotate_left
       · rintro w' ⟨s0, s1, s2⟩
         go_simp
         with_reducible rfl
       rotate_left
       · simp only [Act.put, List.setIfInBounds_toArray, List.set_cons_zero, List.set_cons_succ, i64_w, i32_w]
         rfl
       have s0 := (blk_cell (HSF.out.c.c0) 0).trans rfl
       have f0 := blk_frozen (HSF.out.c.c0) 0
       refine last_ (i := 8) (N := none) #[true, true, true, true, true, true, true, true, true] rfl rfl (one_of HT_.out (by kernel_rfl)) (by decide) (fun K hK => ?_)
       refine store_step (by rfl) rfl (w1 := w4.setCell ⟨g10, 0, none⟩ (.slice (some ⟨gq, 0, none⟩) (i + 1) cq)) ?hr ?_
       (case hr => first | (go_simp; done) | (go_simp; rfl))
       clear s0 f0
       have HSG := Aside0.mk (HSF.out.set00 (v := (.slice (some ⟨gq, 0, none⟩) (i + 1) cq)))
       have K20G := Aside0.mk (blk_far (p := ⟨g10, 0, none⟩) K20.out (show g20 ≠ g10 by have := HSF.out.g.b; have := HG20.out; omega) (.slice (some ⟨gq, 0, none⟩) (i + 1) cq))
       clear HSF K20
       have K20 := K20G
       clear K20G
       generalize w4.setCell ⟨g10, 0, none⟩ (.slice (some ⟨gq, 0, none⟩) (i + 1) cq) = w5 at HSG K20 ⊢
       refine hK.out _ _ ?_
       clear hK K
       refine done_ (done_of HT_.out (by kernel_rfl)) ?_
       clear HT_ HW_ hHeld HSS
       have f0 := (blk_cell (HSG.out.c.c1) 0).trans rfl
       go_upto_region 15 with fail
       have hb1 := below_alloc (Below.refl w5.heap.size w5) (.cells #[.int .i64 mm, .int .i64 tt] 41)
       have HSH := Aside0.mk (HSG.out.below hb1)
       have K20H := Aside0.mk (blk_below2 hb1 K20.out)
       go_wp2_with (at_builtin; refine Aside0.out ?_)
       refine ⟨?_⟩
       clear f0 hb1 HSG K20
       have K20 := K20H
       clear K20H
       refine wpList_append_OwnSp2 rfl _ _ rfl wO.heap.size v1 (clF a l2 l3 0 i) [⟨mm, tt⟩] rfl HSH.out.o.o1 ⟨w5.heap.size, 0, none⟩ 1 1 rfl rfl (one_cellSp w5 mm tt 41) (by have := HRL.out; omega) HSH.out.s.2 ?_
       intro v1' w6 hO hb hg ho
       have hst := HSH.out.app1 hO hb hg ho
       rw [HR.out.2.1] at hO hst
       obtain ⟨gr, cr, hq⟩ := hO.form (by unfold clF; rw [range_len]; omega)
       rw [show ((clF a l2 l3 0 (i + 1))).length = i + 1 by unfold clF; rw [range_len]] at hq
       subst hq
       have HSI := Aside0.mk hst
       have K20I := Aside0.mk ((hg.block g20 (blk_lt2 K20.out) (fun e => HN20.out.2.1 e.symm)).trans K20.out)
       clear hO hb hg ho hst HSH K20
       have f0 := (blk_cell (HSI.out.c.c1) 0).trans rfl
       have f1 := blk_frozen (HSI.out.c.c1) 0
       have HSJ := Aside0.mk (HSI.out.set10 (v := (.slice (some ⟨gr, 0, none⟩) (i + 1) cr)))
       have K20 := Aside0.mk (blk_far (p := ⟨g11, 0, none⟩) K20I.out (show g20 ≠ g11 by have := HSI.out.g.b; have := HG20.out; omega) (.slice (some ⟨gr, 0, none⟩) (i + 1) cr))
       clear HSI K20I
       go_upto_region 16 with fail
       clear f0 f1
       generalize w6.setCell ⟨g11, 0, none⟩ (.slice (some ⟨gr, 0, none⟩) (i + 1) cr) = w7 at HSJ K20 ⊢
       have hbd : Below w7.heap.size w7 w7.drew := below_drew (Below.refl w7.heap.size w7)
       have HSD := Aside0.mk (HSJ.out.below hbd)
       have K20D := Aside0.mk (blk_below2 hbd K20.out)
       clear hbd HSJ K20
       have K20 := K20D
       clear K20D
       have HSS := Aside0.mk (show (fun w' => w'.cell? ⟨g12, 0, none⟩ = some v2 ∧ w'.cell? ⟨g13, 0, none⟩ = some v3 ∧ w'.cell? ⟨g14, 0, none⟩ = some v4 ∧ w'.cell? ⟨g20, 0, none⟩ = some (.int .i64 v) ∧ w'.cell? ⟨g20, 1, none⟩ = some (.int .i64 hh)) w7.drew from ⟨(blk_cell (HSD.out.c.c2) 0).trans rfl, (blk_cell (HSD.out.c.c3) 0).trans rfl, (blk_cell (HSD.out.c.c4) 0).trans rfl, (blk_cell K20.out 0).trans rfl, (blk_cell K20.out 1).trans rfl⟩)
       refine start_ (n := 29) (S := fun w' => w'.cell? ⟨g12, 0, none⟩ = some v2 ∧ w'.cell? ⟨g13, 0, none⟩ = some v3 ∧ w'.cell? ⟨g14, 0, none⟩ = some v4 ∧ w'.cell? ⟨g20, 0, none⟩ = some (.int .i64 v) ∧ w'.cell? ⟨g20, 1, none⟩ = some (.int .i64 hh)) (ds := [24, 26, 28]) #[false, false, false, false, false, false, false, false, false, false, false, false, false, false, false, false, false, false, false, false, false, false, false, false, false, false, false, false, false] (by kernel_rfl) rfl rfl HSS.out (fun hHeld => ?_)
       refine with_tabW tr16_tab tr16_bits (fun HT_ HW_ => ?_)
       generalize w7.drew = wD at HSD K20 HSS hHeld ⊢
       refine pure_ (i := 0) (N := some 88) (v := ?_) (a' := ?_) #[true, false, false, false, false, false, false, false, false, false, false, false, false, false, false, false, false, false, false, false, false, false, false, false, false, false, false, false, false] rfl rfl (any_of HT_.out (by kernel_rfl)) (fun _ _ _ h => h) (Or.inl ⟨by rfl, ?_⟩) ?_ ?_
       rotate_left
       · intro w'
         go_simp
         with_reducible rfl
       rotate_left
       · simp only [Act.put, List.setIfInBounds_toArray, List.set_cons_zero, List.set_cons_succ, i64_w, i32_w]
         rfl
       refine pure_ (i := 1) (N := some 89) (v := ?_) (a' := ?_) #[true, true, false, false, false, false, false, false, false, false, false, false, false, false, false, false, false, false, false, false, false, false, false, false, false, false, false, false, false] rfl rfl (any_of HT_.out (by kernel_rfl)) (fun _ _ _ h => h) (Or.inl ⟨by rfl, ?_⟩) ?_ ?_
       rotate_left
       · intro w'
         go_simp
         with_reducible rfl
       rotate_left
       · simp only [Act.put, List.setIfInBounds_toArray, List.set_cons_zero, List.set_cons_succ, i64_w, i32_w]
         rfl
       refine pure_ (i := 2) (N := some 90) (v := ?_) (a' := ?_) #[true, true, true, false, false, false, false, false, false, false, false, false, false, false, false, false, false, false, false, false, false, false, false, false, false, false, false, false, false] rfl rfl (any_of HT_.out (by kernel_rfl)) (fun _ _ _ h => h) (Or.inl ⟨by rfl, ?_⟩) ?_ ?_
       rotate_left
       · intro w'
         go_simp
         with_reducible rfl
       rotate_left
       · simp only [Act.put, List.setIfInBounds_toArray, List.set_cons_zero, List.set_cons_succ, i64_w, i32_w]
         rfl
       refine pure_ (i := 3) (N := some 91) (v := ?_) (a' := ?_) #[true, true, true, true, false, false, false, false, false, false, false, false, false, false, false, false, false, false, false, false, false, false, false, false, false, false, false, false, false] rfl rfl (any_of HT_.out (by kernel_rfl)) (fun _ _ _ h => h) (Or.inl ⟨by rfl, ?_⟩) ?_ ?_
       rotate_left
       · intro w'
         go_simp
         with_reducible rfl
       rotate_left
       · simp only [Act.put, List.setIfInBounds_toArray, List.set_cons_zero, List.set_cons_succ, i64_w, i32_w]
         rfl
       refine pure_ (i := 4) (N := some 92) (v := ?_) (a' := ?_) #[true, true, true, true, true, false, false, false, false, false, false, false, false, false, false, false, false, false, false, false, false, false, false, false, false, false, false, false, false] rfl rfl (any_of HT_.out (by kernel_rfl)) (fun _ _ _ h => h) (Or.inl ⟨by rfl, ?_⟩) ?_ ?_
       rotate_left
       · intro w'
         go_simp
         with_reducible rfl
       rotate_left
       · simp only [Act.put, List.setIfInBounds_toArray, List.set_cons_zero, List.set_cons_succ, i64_w, i32_w]
         rfl
       refine take_ (i := 5) (N := some 93) (v := ?_) (a' := ?_) #[true, true, true, true, true, true, false, false, false, false, false, false, false, false, false, false, false, false, false, false, false, false, false, false, false, false, false, false, false] rfl rfl (take_ofW HT_.out HW_.out (by kernel_rfl)) (fun _ _ _ h => h) (Or.inl ⟨by rfl, ?_⟩) hHeld ?_ ?_
       rotate_left
       · rintro w' ⟨s0, s1, s2, s3, s4⟩
         go_simp
         with_reducible rfl
       rotate_left
       · simp only [Act.put, List.setIfInBounds_toArray, List.set_cons_zero, List.set_cons_succ, i64_w, i32_w]
         rfl
       refine pure_ (i := 6) (N := some 94) (v := ?_) (a' := ?_) #[true, true, true, true, true, true, true, false, false, false, false, false, false, false, false, false, false, false, false, false, false, false, false, false, false, false, false, false, false] rfl rfl (any_of HT_.out (by kernel_rfl)) (fun _ _ _ h => h) (Or.inl ⟨by rfl, ?_⟩) ?_ ?_
       rotate_left
       · intro w'
         go_simp
         with_reducible rfl
       rotate_left
       · simp only [Act.put, List.setIfInBounds_toArray, List.set_cons_zero, List.set_cons_succ, i64_w, i32_w]
         rfl
       refine pure_ (i := 9) (N := some 97) (v := ?_) (a' := ?_) #[true, true, true, true, true, true, true, false, false, true, false, false, false, false, false, false, false, false, false, false, false, false, false, false, false, false, false, false, false] rfl rfl (any_of HT_.out (by kernel_rfl)) (fun _ _ _ h => h) (Or.inl ⟨by rfl, ?_⟩) ?_ ?_
       rotate_left
       · intro w'
         go_simp
         with_reducible rfl
       rotate_left
       · simp only [Act.put, List.setIfInBounds_toArray, List.set_cons_zero, List.set_cons_succ, i64_w, i32_w]
         rfl
       refine pure_ (i := 10) (N := some 98) (v := ?_) (a' := ?_) #[true, true, true, true, true, true, true, false, false, true, true, false, false, false, false, false, false, false, false, false, false, false, false, false, false, false, false, false, false] rfl rfl (any_of HT_.out (by kernel_rfl)) (fun _ _ _ h => h) (Or.inl ⟨by rfl, ?_⟩) ?_ ?_
       rotate_left
       · intro w'
         go_simp
         with_reducible rfl
       rotate_left
       · simp only [Act.put, List.setIfInBounds_toArray, List.set_cons_zero, List.set_cons_succ, i64_w, i32_w]
         rfl
       refine take_ (i := 11) (N := some 99) (v := ?_) (a' := ?_) #[true, true, true, true, true, true, true, false, false, true, true, true, false, false, false, false, false, false, false, false, false, false, false, false, false, false, false, false, false] rfl rfl (take_ofW HT_.out HW_.out (by kernel_rfl)) (fun _ _ _ h => h) (Or.inl ⟨by rfl, ?_⟩) hHeld ?_ ?_
       rotate_left
       · rintro w' ⟨s0, s1, s2, s3, s4⟩
         go_simp
         with_reducible rfl
       rotate_left
       · simp only [Act.put, List.setIfInBounds_toArray, List.set_cons_zero, List.set_cons_succ, i64_w, i32_w]
         rfl
       refine pure_ (i := 12) (N := some 100) (v := ?_) (a' := ?_) #[true, true, true, true, true, true, true, false, false, true, true, true, true, false, false, false, false, false, false, false, false, false, false, false, false, false, false, false, false] rfl rfl (any_of HT_.out (by kernel_rfl)) (fun _ _ _ h => h) (Or.inl ⟨by rfl, ?_⟩) ?_ ?_
       rotate_left
       · intro w'
         go_simp
         with_reducible rfl
       rotate_left
       · simp only [Act.put, List.setIfInBounds_toArray, List.set_cons_zero, List.set_cons_succ, i64_w, i32_w]
         rfl
       refine take_ (i := 13) (N := some 101) (v := ?_) (a' := ?_) #[true, true, true, true, true, true, true, false, false, true, true, true, true, true, false, false, false, false, false, false, false, false, false, false, false, false, false, false, false] rfl rfl (take_ofW HT_.out HW_.out (by kernel_rfl)) (fun _ _ _ h => h) (Or.inl ⟨by rfl, ?_⟩) hHeld ?_ ?_
       rotate_left
       · rintro w' ⟨s0, s1, s2, s3, s4⟩
         go_simp
         with_reducible rfl
       rotate_left
       · simp only [Act.put, List.setIfInBounds_toArray, List.set_cons_zero, List.set_cons_succ, i64_w, i32_w]
         rfl
       refine pure_ (i := 16) (N := some 104) (v := ?_) (a' := ?_) #[true, true, true, true, true, true, true, false, false, true, true, true, true, true, false, false, true, false, false, false, false, false, false, false, false, false, false, false, false] rfl rfl (any_of HT_.out (by kernel_rfl)) (fun _ _ _ h => h) (Or.inl ⟨by rfl, ?_⟩) ?_ ?_
       rotate_left
       · intro w'
         go_simp
         with_reducible rfl
       rotate_left
       · simp only [Act.put, List.setIfInBounds_toArray, List.set_cons_zero, List.set_cons_succ, i64_w, i32_w]
         rfl
       refine pure_ (i := 17) (N := some 105) (v := ?_) (a' := ?_) #[true, true, true, true, true, true, true, false, false, true, true, true, true, true, false, false, true, true, false, false, false, false, false, false, false, false, false, false, false] rfl rfl (any_of HT_.out (by kernel_rfl)) (fun _ _ _ h => h) (Or.inl ⟨by rfl, ?_⟩) ?_ ?_
       rotate_left
       · intro w'
         go_simp
         with_reducible rfl
       rotate_left
       · simp only [Act.put, List.setIfInBounds_toArray, List.set_cons_zero, List.set_cons_succ, i64_w, i32_w]
         rfl
       refine take_ (i := 18) (N := some 106) (v := ?_) (a' := ?_) #[true, true, true, true, true, true, true, false, false, true, true, true, true, true, false, false, true, true, true, false, false, false, false, false, false, false, false, false, false] rfl rfl (take_ofW HT_.out HW_.out (by kernel_rfl)) (fun _ _ _ h => h) (Or.inl ⟨by rfl, ?_⟩) hHeld ?_ ?_
       rotate_left
       · rintro w' ⟨s0, s1, s2, s3, s4⟩
         go_simp
         with_reducible rfl
       rotate_left
       · simp only [Act.put, List.setIfInBounds_toArray, List.set_cons_zero, List.set_cons_succ, i64_w, i32_w]
         rfl
       refine pure_ (i := 19) (N := some 107) (v := ?_) (a' := ?_) #[true, true, true, true, true, true, true, false, false, true, true, true, true, true, false, false, true, true, true, true, false, false, false, false, false, false, false, false, false] rfl rfl (any_of HT_.out (by kernel_rfl)) (fun _ _ _ h => h) (Or.inl ⟨by rfl, ?_⟩) ?_ ?_
       rotate_left
       · intro w'
         go_simp
         with_reducible rfl
       rotate_left
       · simp only [Act.put, List.setIfInBounds_toArray, List.set_cons_zero, List.set_cons_succ, i64_w, i32_w]
         rfl
       refine take_ (i := 20) (N := some 108) (v := ?_) (a' := ?_) #[true, true, true, true, true, true, true, false, false, true, true, true, true, true, false, false, true, true, true, true, true, false, false, false, false, false, false, false, false] rfl rfl (take_ofW HT_.out HW_.out (by kernel_rfl)) (fun _ _ _ h => h) (Or.inl ⟨by rfl, ?_⟩) hHeld ?_ ?_
       rotate_left
       · rintro w' ⟨s0, s1, s2, s3, s4⟩
         go_simp
         with_reducible rfl
       rotate_left
       · simp only [Act.put, List.setIfInBounds_toArray, List.set_cons_zero, List.set_cons_succ, i64_w, i32_w]
         rfl
       have HBL := Aside0.mk (C5.lt HSD.out.g HSD.out.s.1)
       refine chains3w (by kernel_rfl) _ wD wO.heap.size v2 v3 v4 (trF a l2 l3 0 i) (loF a i) (hiF a l2 0 i) tt v hh g12 0 rfl rfl rfl rfl rfl rfl rfl rfl rfl (by omega) (by have := HRL.out; omega) HSD.out.o.o2 HSD.out.o.o3 HSD.out.o.o4 HSD.out.o.d23 HSD.out.o.d24 HSD.out.o.d34 HSD.out.s.2 (fun W' hB_ hP_ => ⟨(blk_cell ((hB_.block _ (HBL.out.2.2.1)).trans HSD.out.c.c2) 0).trans rfl, (blk_cell ((hB_.block _ (HBL.out.2.2.2.1)).trans HSD.out.c.c3) 0).trans rfl, (blk_cell ((hB_.block _ (HBL.out.2.2.2.2.1)).trans HSD.out.c.c4) 0).trans rfl, (blk_cell (hP_ g20 _ K20.out HN20.out.2.2.1 HN20.out.2.2.2.1 HN20.out.2.2.2.2) 0).trans rfl, (blk_cell (hP_ g20 _ K20.out HN20.out.2.2.1 HN20.out.2.2.2.1 HN20.out.2.2.2.2) 1).trans rfl⟩) (fun _ _ _ _ h => h) ?_
       intro t95 t102 t109 n2 n3 n4 w8 hB_ hO2 hO3 hO4 d23 d24 d34 ee2 ee3 ee4 hk_
       have hst := HSD.out.app234 hB_ (HSD.out.o.app234 hO2 hO3 hO4 d23 d24 d34 ee2 ee3 ee4 hk_)
       rw [HR.out.2.2.1, HR.out.2.2.2.1, HR.out.2.2.2.2] at hst
       rw [HR.out.2.2.1] at hO2
       rw [HR.out.2.2.2.1] at hO3
       rw [HR.out.2.2.2.2] at hO4
       obtain ⟨g2_, cp2, hq2⟩ := hO2.form (by unfold trF; rw [range_len]; omega)
       rw [show ((trF a l2 l3 0 (i + 1))).length = i + 1 by unfold trF; rw [range_len]] at hq2
       obtain ⟨g3_, cp3, hq3⟩ := hO3.form (by unfold loF; rw [range_len]; omega)
       rw [show ((loF a (i + 1))).length = i + 1 by unfold loF; rw [range_len]] at hq3
       obtain ⟨g4_, cp4, hq4⟩ := hO4.form (by unfold hiF; rw [range_len]; omega)
       rw [show ((hiF a l2 0 (i + 1))).length = i + 1 by unfold hiF; rw [range_len]] at hq4
       subst hq2
       subst hq3
       subst hq4
       have HSK := Aside0.mk hst
       clear hB_ hO2 hO3 hO4 d23 d24 d34 ee2 ee3 ee4 hk_ hst HSD K20 HBL hHeld HSS
       refine norm_ (a' := ?_) ?_ ?_
       rotate_left
       · show Act.put _ (some 110) _ = _
         simp only [Act.put, List.setIfInBounds_toArray, List.set_cons_zero, List.set_cons_succ, i64_w, i32_w]
         rfl
       have s0 := (blk_cell (HSK.out.c.c2) 0).trans rfl
       have f0 := blk_frozen (HSK.out.c.c2) 0
       refine last_ (i := 24) (N := none) #[true, true, true, true, true, true, true, true, true, true, true, true, true, true, true, true, true, true, true, true, true, true, true, true, true, false, false, false, false] rfl rfl (one_of HT_.out (by kernel_rfl)) (by decide) (fun K hK => ?_)
       refine store_step (by rfl) rfl (w1 := w8.setCell ⟨g12, 0, none⟩ (.slice (some ⟨g2_, 0, none⟩) (i + 1) cp2)) ?hr ?_
       (case hr => first | (go_simp; done) | (go_simp; rfl))
       clear s0 f0
       have HSL := Aside0.mk (HSK.out.set20 (v := (.slice (some ⟨g2_, 0, none⟩) (i + 1) cp2)))
       clear HSK
       generalize w8.setCell ⟨g12, 0, none⟩ (.slice (some ⟨g2_, 0, none⟩) (i + 1) cp2) = w9 at HSL ⊢
       refine hK.out _ _ ?_
       clear hK K
       refine pure_ (i := 25) (N := some 112) (v := ?_) (a' := ?_) #[true, true, true, true, true, true, true, true, true, true, true, true, true, true, true, true, true, true, true, true, true, true, true, true, true, true, false, false, false] rfl rfl (any_of HT_.out (by kernel_rfl)) (fun _ _ _ h => h) (Or.inl ⟨by rfl, ?_⟩) ?_ ?_
       rotate_left
       · intro w'
         go_simp
         with_reducible rfl
       rotate_left
       · simp only [Act.put, List.setIfInBounds_toArray, List.set_cons_zero, List.set_cons_succ, i64_w, i32_w]
         rfl
       have s0 := (blk_cell (HSL.out.c.c3) 0).trans rfl
       have f0 := blk_frozen (HSL.out.c.c3) 0
       refine last_ (i := 26) (N := none) #[true, true, true, true, true, true, true, true, true, true, true, true, true, true, true, true, true, true, true, true, true, true, true, true, true, true, true, false, false] rfl rfl (one_of HT_.out (by kernel_rfl)) (by decide) (fun K hK => ?_)
       refine store_step (by rfl) rfl (w1 := w9.setCell ⟨g13, 0, none⟩ (.slice (some ⟨g3_, 0, none⟩) (i + 1) cp3)) ?hr ?_
       (case hr => first | (go_simp; done) | (go_simp; rfl))
       clear s0 f0
       have HSM := Aside0.mk (HSL.out.set30 (v := (.slice (some ⟨g3_, 0, none⟩) (i + 1) cp3)))
       clear HSL
       generalize w9.setCell ⟨g13, 0, none⟩ (.slice (some ⟨g3_, 0, none⟩) (i + 1) cp3) = w10 at HSM ⊢
       refine hK.out _ _ ?_
       clear hK K
       refine pure_ (i := 27) (N := some 113) (v := ?_) (a' := ?_) #[true, true, true, true, true, true, true, true, true, true, true, true, true, true, true, true, true, true, true, true, true, true, true, true, true, true, true, true, false] rfl rfl (any_of HT_.out (by kernel_rfl)) (fun _ _ _ h => h) (Or.inl ⟨by rfl, ?_⟩) ?_ ?_
       rotate_left
       · intro w'
         go_simp
         with_reducible rfl
       rotate_left
       · simp only [Act.put, List.setIfInBounds_toArray, List.set_cons_zero, List.set_cons_succ, i64_w, i32_w]
         rfl
       have s0 := (blk_cell (HSM.out.c.c4) 0).trans rfl
       have f0 := blk_frozen (HSM.out.c.c4) 0
       refine last_ (i := 28) (N := none) #[true, true, true, true, true, true, true, true, true, true, true, true, true, true, true, true, true, true, true, true, true, true, true, true, true, true, true, true, true] rfl rfl (one_of HT_.out (by kernel_rfl)) (by decide) (fun K hK => ?_)
       refine store_step (by rfl) rfl (w1 := w10.setCell ⟨g14, 0, none⟩ (.slice (some ⟨g4_, 0, none⟩) (i + 1) cp4)) ?hr ?_
       (case hr => first | (go_simp; done) | (go_simp; rfl))
       clear s0 f0
       have HSN := Aside0.mk (HSM.out.set40 (v := (.slice (some ⟨g4_, 0, none⟩) (i + 1) cp4)))
       clear HSM
       generalize w10.setCell ⟨g14, 0, none⟩ (.slice (some ⟨g4_, 0, none⟩) (i + 1) cp4) = w11 at HSN ⊢
       refine hK.out _ _ ?_
       clear hK K
       refine done_ (done_of HT_.out (by kernel_rfl)) ?_
       clear HT_ HW_
       have HIN := Aside0.mk (show i ≤ 1000 ∧ cn ≤ 1000 by have := HRL.out.1; unfold spF at this; rw [range_len] at this; have := HPQ.out.2.2.1; omega)
       go_wp2
       refine ⟨⟨i + 1, cn + 1, _, _, _, _, _, congrArg _ (wrap_up cn (by have := HIN.out; omega)), congrArg _ (wrap_up i (by have := HIN.out; omega)), ⟨n1, by have := HI.out.2; omega⟩, HSN⟩, ?_⟩
       rw [wrap_up i (by have := HIN.out; omega)]; exact meas_up a.length i n1
     · have hin : i = a.length := by have := HI.out.1; omega
       have hd : decide ((i : Int) < (a.length : Int)) = false := decide_eq_false (by omega)
       have hst := HST.out
       rw [hin] at hst
       clear HST
       have HSX := Aside0.mk hst
       have HCN2 := Aside0.mk (show cn = 0 + a.length by have := HI.out.2; omega)
       clear hst hin
       go_wp2
       exact ⟨⟨1, cn, v0, .slice none 0 0, v1, .slice none 0 0, v2, .slice none 0 0, v3, .slice none 0 0, v4, .slice none 0 0, rfl, rfl, ⟨by omega⟩, ⟨by rw [if_neg (by omega), if_pos rfl]; have := HCN2.out; omega⟩, ⟨HSX.out.c⟩, ⟨⟨HSX.out.b, Nat.le_trans HSX.out.s.1 HSX.out.s.2⟩⟩, ⟨by rw [if_neg (by omega)]; exact HSX.out.o.mono HSX.out.s.1⟩, ⟨by rw [if_pos (by omega)]; exact ⟨rfl, rfl, rfl, rfl, rfl⟩⟩⟩, by decide⟩
  | 1, HK, HCN, HOA, HOB =>
    have ha := HOA.out
    have hb := HOB.out
    rw [if_neg (by omega)] at ha
    rw [if_pos (by omega)] at hb
    obtain ⟨rfl, rfl, rfl, rfl, rfl⟩ := hb
    have HO5 := Aside0.mk ha
    clear HOA HOB ha
    rw [show ((1 : Nat) : Int) = (1 : Int) from rfl]
    have f34 := (blk_cell HCC.out.k34 1).trans rfl
    obtain ⟨wO, hwO⟩ : ∃ W : World, W = wr := ⟨_, rfl⟩
    subst hwO
    go_wp2
    have HS0 := Aside0.mk (St.mk HGG.out HCC.out KeepF.refl O5.nil HBO.out.1 ⟨HBO.out.2, Nat.le_refl _⟩ : St wO wO w1 B0 g10 g11 g12 g13 g14 g34 #[.slice (some ada) a.length ca, .slice (some adb) b.length cb] e0 (.slice none 0 0) e1 (.slice none 0 0) e2 (.slice none 0 0) e3 (.slice none 0 0) e4 (.slice none 0 0) (.slice none 0 0) (.slice none 0 0) (.slice none 0 0) (.slice none 0 0) (.slice none 0 0) (spF b l2 a.length 0) (clF b l2 l3 a.length 0) (trF b l2 l3 a.length 0) (loF b 0) (hiF b l2 a.length 0))
    go_loopw [15, 43] (fun s15 s43 wi => ∃ (i cn : Nat) (v0 v1 v2 v3 v4 : Value), s15 = .int .i64 cn ∧ s43 = .int .i64 i ∧ Aside0 (i ≤ b.length ∧ cn = a.length + i) ∧ Aside0 (St wi wO w1 B0 g10 g11 g12 g13 g14 g34 #[.slice (some ada) a.length ca, .slice (some adb) b.length cb] e0 v0 e1 v1 e2 v2 e3 v3 e4 v4 v0 v1 v2 v3 v4 (spF b l2 a.length i) (clF b l2 l3 a.length i) (trF b l2 l3 a.length i) (loF b i) (hiF b l2 a.length i))) (fun _ s43 _ => b.length - (intOf s43).toNat)
    case atStart => exact ⟨0, cn, .slice none 0 0, .slice none 0 0, .slice none 0 0, .slice none 0 0, .slice none 0 0, rfl, rfl, ⟨⟨Nat.zero_le _, HCN.out⟩⟩, HS0⟩
    case round =>
     clear HS0 f34 HCC HBO HCN
     obtain ⟨i, cn, v0, v1, v2, v3, v4, rfl, rfl, HI, HST⟩ := hrel
     by_cases hj : i < b.length
     · have n1 : i < b.length := hj
       have hd : decide ((i : Int) < (b.length : Int)) = true := decide_eq_true (by omega)
       clear hj
       have hl5 := HS.out.2.2.1
       have hl5a := HS.out.1.2.1
       obtain ⟨v, hv⟩ : ∃ v, v = rd b (i : Int) := ⟨_, rfl⟩
       have hvb := HS.out.2.2.2 _ (rd_mem b n1)
       obtain ⟨p, hp⟩ : ∃ p, p = wdN l2 a.length i := ⟨_, rfl⟩
       obtain ⟨q, hq⟩ : ∃ q, q = ltN l2 l3 a.length i := ⟨_, rfl⟩
       obtain ⟨m2, hm2⟩ : ∃ m, m = q / 2 := ⟨_, rfl⟩
       have hb12 := lt_wd l2 l3 a.length i
       rw [← hp, ← hq] at hb12
       have hcn := HI.out.2
       have hpN : p = pickN l2 cn 12 := by rw [hp, hcn]; rfl
       have hqN : q = pickN l3 cn p := by rw [hq, hp, hcn]; rfl
       obtain ⟨hh, hhh⟩ : ∃ h, h = v + (p : Int) := ⟨_, rfl⟩
       obtain ⟨tt, htt⟩ : ∃ h, h = v + (q : Int) := ⟨_, rfl⟩
       obtain ⟨mm, hmm⟩ : ∃ h, h = v + (m2 : Int) := ⟨_, rfl⟩
       rw [← hv] at hvb
       have hA : hh - v = (p : Int) := by omega
       have hB : tt - v = (q : Int) := by omega
       have e5 : Int.tdiv (q : Int) 2 = (m2 : Int) := by rw [hm2]; exact (Int.ofNat_tdiv q 2).symm
       have hbd1 : -1000 ≤ v + (p : Int) ∧ v + (p : Int) ≤ 1000 := by omega
       have hbd2 : -1000 ≤ (p : Int) ∧ (p : Int) ≤ 1000 := by omega
       have hbd3 : -1000 ≤ v + (q : Int) ∧ v + (q : Int) ≤ 1000 := by omega
       have hbd4 : -1000 ≤ (q : Int) ∧ (q : Int) ≤ 1000 := by omega
       have hm12 : m2 ≤ 12 := by omega
       have hbd5 : -1000 ≤ (m2 : Int) ∧ (m2 : Int) ≤ 1000 := by omega
       have hbd6 : -1000 ≤ v + (m2 : Int) ∧ v + (m2 : Int) ≤ 1000 := by omega
       have hcp : cn ≤ 1000 ∧ p ≤ 1000 := by omega
       have hrl : i + 1 ≤ 1000 ∧ i + 1 ≤ 1000 ∧ i ≤ 1000 ∧ i ≤ 1000 ∧ i ≤ 1000 := by omega
       have e1 : wrap64 (v + (p : Int)) = hh := by rw [hhh]; exact w64s hbd1
       have e2 : wrap64 (hh - v) = (p : Int) := by rw [hA]; exact w64s hbd2
       have e3 : wrap64 (v + (q : Int)) = tt := by rw [htt]; exact w64s hbd3
       have e4 : wrap64 (tt - v) = (q : Int) := by rw [hB]; exact w64s hbd4
       have e6 : wrap64 (m2 : Int) = (m2 : Int) := w64s hbd5
       have e7 : wrap64 (v + (m2 : Int)) = mm := by rw [hmm]; exact w64s hbd6
       have HR := Aside0.mk (show (spF b l2 a.length i) ++ [⟨v, hh⟩] = (spF b l2 a.length (i + 1)) ∧ (clF b l2 l3 a.length i) ++ [⟨mm, tt⟩] = (clF b l2 l3 a.length (i + 1)) ∧ (trF b l2 l3 a.length i) ++ [tt] = (trF b l2 l3 a.length (i + 1)) ∧ (loF b i) ++ [v] = (loF b (i + 1)) ∧ (hiF b l2 a.length i) ++ [hh] = (hiF b l2 a.length (i + 1)) by
        unfold spF clF trF loF hiF
        rw [range_map1, range_map1, range_map1, range_map1, range_map1, hhh, hmm, htt, hm2, hp, hq, hv]
        exact ⟨rfl, rfl, rfl, rfl, rfl⟩)
       have HRL := Aside0.mk (show (spF b l2 a.length i).length + 1 ≤ 1000 ∧ (clF b l2 l3 a.length i).length + 1 ≤ 1000 ∧ (trF b l2 l3 a.length i).length ≤ 1000 ∧ (loF b i).length ≤ 1000 ∧ (hiF b l2 a.length i).length ≤ 1000 by unfold spF clF trF loF hiF; rw [range_len, range_len, range_len, range_len, range_len]; exact hrl)
       have HPQ := Aside0.mk (And.intro hpN (And.intro hqN hcp))
       have hcv := rd_cell (Kd.C_below HCb.out.2 HST.out.b) i n1
       rw [← hv] at hcv
       clear hv hvb hp hq hm2 hb12 hcn hpN hqN hhh htt hmm hl5 hl5a hA hB hbd1 hbd2 hbd3 hbd4 hbd5 hbd6 hm12 hcp hrl
       go_wp2_with fail
       refine (pick12_calls A2 c2 l2 cn p _ (Kd.C_below HW1.out.2.1 HST.out.b) HW1.out.1 HW1.out.2.2 HPQ.out.2.2.1 HPQ.out.1).mono ?_
       rintro e w2 ⟨rfl, hb⟩
       have HST2 := Aside0.mk (HST.out.below hb)
       clear hb HST hcv
       have HN20_ := Aside0.mk (show (∀ k, v0.ownBlock = some k → k ≠ w2.heap.size) ∧ (∀ k, v1.ownBlock = some k → k ≠ w2.heap.size) ∧ (∀ k, v2.ownBlock = some k → k ≠ w2.heap.size) ∧ (∀ k, v3.ownBlock = some k → k ≠ w2.heap.size) ∧ (∀ k, v4.ownBlock = some k → k ≠ w2.heap.size) from ⟨fun k hk => Nat.ne_of_lt (HST2.out.o.o0.lt k hk).2, fun k hk => Nat.ne_of_lt (HST2.out.o.o1.lt k hk).2, fun k hk => Nat.ne_of_lt (HST2.out.o.o2.lt k hk).2, fun k hk => Nat.ne_of_lt (HST2.out.o.o3.lt k hk).2, fun k hk => Nat.ne_of_lt (HST2.out.o.o4.lt k hk).2⟩)
       have hb2 := below_alloc (Below.refl w2.heap.size w2) (.cells #[.int .i64 v, .int .i64 hh] 41)
       have k20 := blk_new w2 (.cells #[.int .i64 v, .int .i64 hh] 41)
       have HST3 := Aside0.mk (HST2.out.below hb2)
       have HG20_ := Aside0.mk (show B0 ≤ w2.heap.size from Nat.le_trans HST2.out.s.1 HST2.out.s.2)
       have K20_ := Aside0.mk k20
       clear hb2 k20 HST2
       go_wp2_with fail
       refine (pickn_calls A3 c3 l3 cn p q _ (Kd.C_below HT1.out.2.1 HST3.out.b) HT1.out.1 HT1.out.2.2 HPQ.out.2.2.1 HPQ.out.2.2.2 HPQ.out.2.1).mono ?_
       rintro e w3 ⟨rfl, hb⟩
       have HST4 := Aside0.mk (HST3.out.below hb)
       have k20 := blk_below2 hb K20_.out
       obtain ⟨g20, hg20⟩ : ∃ g, g = w2.heap.size := ⟨_, rfl⟩
       rw [← hg20] at k20 HN20_ HG20_ ⊢
       have K20 := Aside0.mk k20
       have HG20 := HG20_
       have HN20 := Aside0.mk (show v0.ownBlock ≠ some g20 ∧ v1.ownBlock ≠ some g20 ∧ v2.ownBlock ≠ some g20 ∧ v3.ownBlock ≠ some g20 ∧ v4.ownBlock ≠ some g20 from ⟨fun e => HN20_.out.1 _ e rfl, fun e => HN20_.out.2.1 _ e rfl, fun e => HN20_.out.2.2.1 _ e rfl, fun e => HN20_.out.2.2.2.1 _ e rfl, fun e => HN20_.out.2.2.2.2 _ e rfl⟩)
       clear hb k20 hg20 HST3 K20_ HN20_ HG20_
       go_upto_region 14 with fail
       have hbd : Below w3.heap.size w3 w3.drew := below_drew (Below.refl w3.heap.size w3)
       have HSD := Aside0.mk (HST4.out.below hbd)
       have K20D := Aside0.mk (blk_below2 hbd K20.out)
       clear hbd HST4 K20
       have K20 := K20D
       clear K20D
       have HSS := Aside0.mk (show (fun w' => w'.cell? ⟨g10, 1, none⟩ = some v0 ∧ w'.cell? ⟨g20, 0, none⟩ = some (.int .i64 v) ∧ w'.cell? ⟨g20, 1, none⟩ = some (.int .i64 hh)) w3.drew from ⟨(blk_cell (HSD.out.c.c0) 1).trans rfl, (blk_cell K20.out 0).trans rfl, (blk_cell K20.out 1).trans rfl⟩)
       refine start_ (n := 9) (S := fun w' => w'.cell? ⟨g10, 1, none⟩ = some v0 ∧ w'.cell? ⟨g20, 0, none⟩ = some (.int .i64 v) ∧ w'.cell? ⟨g20, 1, none⟩ = some (.int .i64 hh)) (ds := [8]) #[false, false, false, false, false, false, false, false, false] (by kernel_rfl) rfl rfl HSS.out (fun hHeld => ?_)
       refine with_tabW ut14_tab ut14_bits (fun HT_ HW_ => ?_)
       generalize w3.drew = wD at HSD K20 HSS hHeld ⊢
       refine take_ (i := 0) (N := some 65) (v := ?_) (a' := ?_) #[true, false, false, false, false, false, false, false, false] rfl rfl (take_ofW HT_.out HW_.out (by kernel_rfl)) (fun _ _ _ h => h) (Or.inl ⟨by rfl, ?_⟩) hHeld ?_ ?_
       rotate_left
       · rintro w' ⟨s0, s1, s2⟩
         go_simp
         with_reducible rfl
       rotate_left
       · simp only [Act.put, List.setIfInBounds_toArray, List.set_cons_zero, List.set_cons_succ, i64_w, i32_w]
         rfl
       refine take_ (i := 1) (N := some 66) (v := ?_) (a' := ?_) #[true, true, false, false, false, false, false, false, false] rfl rfl (take_ofW HT_.out HW_.out (by kernel_rfl)) (fun _ _ _ h => h) (Or.inl ⟨by rfl, ?_⟩) hHeld ?_ ?_
       rotate_left
       · rintro w' ⟨s0, s1, s2⟩
         go_simp
         with_reducible rfl
       rotate_left
       · simp only [Act.put, List.setIfInBounds_toArray, List.set_cons_zero, List.set_cons_succ, i64_w, i32_w]
         rfl
       refine take_ (i := 2) (N := some 67) (v := ?_) (a' := ?_) #[true, true, true, false, false, false, false, false, false] rfl rfl (take_ofW HT_.out HW_.out (by kernel_rfl)) (fun _ _ _ h => h) (Or.inl ⟨by rfl, ?_⟩) hHeld ?_ ?_
       rotate_left
       · rintro w' ⟨s0, s1, s2⟩
         go_simp
         with_reducible rfl
       rotate_left
       · simp only [Act.put, List.setIfInBounds_toArray, List.set_cons_zero, List.set_cons_succ, i64_w, i32_w]
         rfl
       refine take_ (i := 3) (N := some 68) (v := ?_) (a' := ?_) #[true, true, true, true, false, false, false, false, false] rfl rfl (take_ofW HT_.out HW_.out (by kernel_rfl)) (fun _ _ _ h => h) (Or.inl ⟨by rfl, ?_⟩) hHeld ?_ ?_
       rotate_left
       · rintro w' ⟨s0, s1, s2⟩
         go_simp
         with_reducible rfl
       rotate_left
       · simp only [Act.put, List.setIfInBounds_toArray, List.set_cons_zero, List.set_cons_succ, i64_w, i32_w]
         rfl
       refine take_ (i := 4) (N := some 69) (v := ?_) (a' := ?_) #[true, true, true, true, true, false, false, false, false] rfl rfl (take_ofW HT_.out HW_.out (by kernel_rfl)) (fun _ _ _ h => h) (Or.inl ⟨by rfl, ?_⟩) hHeld ?_ ?_
       rotate_left
       · rintro w' ⟨s0, s1, s2⟩
         go_simp
         with_reducible rfl
       rotate_left
       · simp only [Act.put, List.setIfInBounds_toArray, List.set_cons_zero, List.set_cons_succ, i64_w, i32_w]
         rfl
       refine one_ (i := 5) (N := some 70) #[true, true, true, true, true, true, false, false, false] rfl rfl (one_of HT_.out (by kernel_rfl)) (by decide) (fun K hK => ?_)
       refine value_ (v := .slice (some ⟨wD.heap.size, 0, none⟩) 1 1) (w1 := wD.alloc (.cells #[.int .i64 v, .int .i64 hh] 41)) (by rfl) rfl (by first | (go_simp; done) | (go_simp; rfl)) ?_
       have hb_ := below_alloc (Below.refl wD.heap.size wD) (.cells #[.int .i64 v, .int .i64 hh] 41)
       have HSE := Aside0.mk (HSD.out.below hb_)
       have K20E := Aside0.mk (blk_below2 hb_ K20.out)
       clear hb_ HSD K20
       have K20 := K20E
       clear K20E
       refine hK.out _ _ ⟨(blk_cell (HSE.out.c.c0) 1).trans rfl, (blk_cell K20.out 0).trans rfl, (blk_cell K20.out 1).trans rfl⟩ (fun _ => ?_)
       clear hK K
       refine norm_ (a' := ?_) ?_ ?_
       rotate_left
       · show Act.put _ (some 70) _ = _
         simp only [Act.put, List.setIfInBounds_toArray, List.set_cons_zero, List.set_cons_succ, i64_w, i32_w]
         rfl
       refine one_ (i := 6) (N := some 71) #[true, true, true, true, true, true, true, false, false] rfl rfl (one_of HT_.out (by kernel_rfl)) (by decide) (fun K hK => ?_)
       refine step_append_OwnSp (by rfl) (.tmp 68) (.tmp 70) rfl wO.heap.size v0 (spF b l2 a.length i) [⟨v, hh⟩] rfl HSE.out.o.o0 ⟨wD.heap.size, 0, none⟩ 1 1 rfl rfl (one_cellSp wD v hh 41) (by have := HRL.out; omega) HSE.out.s.2 ?_
       intro v0' w4 hO hb hg ho
       have hst := HSE.out.app0 hO hb hg ho
       rw [HR.out.1] at hO hst
       obtain ⟨gq, cq, hq⟩ := hO.form (by unfold spF; rw [range_len]; omega)
       rw [show ((spF b l2 a.length (i + 1))).length = i + 1 by unfold spF; rw [range_len]] at hq
       subst hq
       have HSF := Aside0.mk hst
       have K20F := Aside0.mk ((hg.block g20 (blk_lt2 K20.out) (fun e => HN20.out.1 e.symm)).trans K20.out)
       clear hO hb hg ho hst HSE K20
       have K20 := K20F
       clear K20F
       refine hK.out _ _ ⟨(blk_cell (HSF.out.c.c0) 1).trans rfl, (blk_cell K20.out 0).trans rfl, (blk_cell K20.out 1).trans rfl⟩ (fun _ => ?_)
       clear hK K
       refine norm_ (a' := ?_) ?_ ?_
       rotate_left
       · show Act.put _ (some 71) _ = _
         simp only [Act.put, List.setIfInBounds_toArray, List.set_cons_zero, List.set_cons_succ, i64_w, i32_w]
         rfl
       replace hHeld : (fun w' => w'.cell? ⟨g10, 1, none⟩ = some v0 ∧ w'.cell? ⟨g20, 0, none⟩ = some (.int .i64 v) ∧ w'.cell? ⟨g20, 1, none⟩ = some (.int .i64 hh)) w4 := ⟨(blk_cell (HSF.out.c.c0) 1).trans rfl, (blk_cell K20.out 0).trans rfl, (blk_cell K20.out 1).trans rfl⟩
       refine take_ (i := 7) (N := some 72) (v := ?_) (a' := ?_) #[true, true, true, true, true, true, true, true, false] rfl rfl (take_ofW HT_.out HW_.out (by kernel_rfl)) (fun _ _ _ h => h) (Or.inl ⟨by rfl, ?_⟩) hHeld ?_ ?_
       rotate_left
       · rintro w' ⟨s0, s1, s2⟩
         go_simp
         with_reducible rfl
       rotate_left
       · simp only [Act.put, List.setIfInBounds_toArray, List.set_cons_zero, List.set_cons_succ, i64_w, i32_w]
         rfl
       have s0 := (blk_cell (HSF.out.c.c0) 1).trans rfl
       have f0 := blk_frozen (HSF.out.c.c0) 1
       refine last_ (i := 8) (N := none) #[true, true, true, true, true, true, true, true, true] rfl rfl (one_of HT_.out (by kernel_rfl)) (by decide) (fun K hK => ?_)
       refine store_step (by rfl) rfl (w1 := w4.setCell ⟨g10, 1, none⟩ (.slice (some ⟨gq, 0, none⟩) (i + 1) cq)) ?hr ?_
       (case hr => first | (go_simp; done) | (go_simp; rfl))
       clear s0 f0
       have HSG := Aside0.mk (HSF.out.set01 (v := (.slice (some ⟨gq, 0, none⟩) (i + 1) cq)))
       have K20G := Aside0.mk (blk_far (p := ⟨g10, 1, none⟩) K20.out (show g20 ≠ g10 by have := HSF.out.g.b; have := HG20.out; omega) (.slice (some ⟨gq, 0, none⟩) (i + 1) cq))
       clear HSF K20
       have K20 := K20G
       clear K20G
       generalize w4.setCell ⟨g10, 1, none⟩ (.slice (some ⟨gq, 0, none⟩) (i + 1) cq) = w5 at HSG K20 ⊢
       refine hK.out _ _ ?_
       clear hK K
       refine done_ (done_of HT_.out (by kernel_rfl)) ?_
       clear HT_ HW_ hHeld HSS
       have f0 := (blk_cell (HSG.out.c.c1) 1).trans rfl
       go_upto_region 15 with fail
       have hb1 := below_alloc (Below.refl w5.heap.size w5) (.cells #[.int .i64 mm, .int .i64 tt] 41)
       have HSH := Aside0.mk (HSG.out.below hb1)
       have K20H := Aside0.mk (blk_below2 hb1 K20.out)
       go_wp2_with (at_builtin; refine Aside0.out ?_)
       refine ⟨?_⟩
       clear f0 hb1 HSG K20
       have K20 := K20H
       clear K20H
       refine wpList_append_OwnSp2 rfl _ _ rfl wO.heap.size v1 (clF b l2 l3 a.length i) [⟨mm, tt⟩] rfl HSH.out.o.o1 ⟨w5.heap.size, 0, none⟩ 1 1 rfl rfl (one_cellSp w5 mm tt 41) (by have := HRL.out; omega) HSH.out.s.2 ?_
       intro v1' w6 hO hb hg ho
       have hst := HSH.out.app1 hO hb hg ho
       rw [HR.out.2.1] at hO hst
       obtain ⟨gr, cr, hq⟩ := hO.form (by unfold clF; rw [range_len]; omega)
       rw [show ((clF b l2 l3 a.length (i + 1))).length = i + 1 by unfold clF; rw [range_len]] at hq
       subst hq
       have HSI := Aside0.mk hst
       have K20I := Aside0.mk ((hg.block g20 (blk_lt2 K20.out) (fun e => HN20.out.2.1 e.symm)).trans K20.out)
       clear hO hb hg ho hst HSH K20
       have f0 := (blk_cell (HSI.out.c.c1) 1).trans rfl
       have f1 := blk_frozen (HSI.out.c.c1) 1
       have HSJ := Aside0.mk (HSI.out.set11 (v := (.slice (some ⟨gr, 0, none⟩) (i + 1) cr)))
       have K20 := Aside0.mk (blk_far (p := ⟨g11, 1, none⟩) K20I.out (show g20 ≠ g11 by have := HSI.out.g.b; have := HG20.out; omega) (.slice (some ⟨gr, 0, none⟩) (i + 1) cr))
       clear HSI K20I
       go_upto_region 16 with fail
       clear f0 f1
       generalize w6.setCell ⟨g11, 1, none⟩ (.slice (some ⟨gr, 0, none⟩) (i + 1) cr) = w7 at HSJ K20 ⊢
       have hbd : Below w7.heap.size w7 w7.drew := below_drew (Below.refl w7.heap.size w7)
       have HSD := Aside0.mk (HSJ.out.below hbd)
       have K20D := Aside0.mk (blk_below2 hbd K20.out)
       clear hbd HSJ K20
       have K20 := K20D
       clear K20D
       have HSS := Aside0.mk (show (fun w' => w'.cell? ⟨g12, 1, none⟩ = some v2 ∧ w'.cell? ⟨g13, 1, none⟩ = some v3 ∧ w'.cell? ⟨g14, 1, none⟩ = some v4 ∧ w'.cell? ⟨g20, 0, none⟩ = some (.int .i64 v) ∧ w'.cell? ⟨g20, 1, none⟩ = some (.int .i64 hh)) w7.drew from ⟨(blk_cell (HSD.out.c.c2) 1).trans rfl, (blk_cell (HSD.out.c.c3) 1).trans rfl, (blk_cell (HSD.out.c.c4) 1).trans rfl, (blk_cell K20.out 0).trans rfl, (blk_cell K20.out 1).trans rfl⟩)
       refine start_ (n := 29) (S := fun w' => w'.cell? ⟨g12, 1, none⟩ = some v2 ∧ w'.cell? ⟨g13, 1, none⟩ = some v3 ∧ w'.cell? ⟨g14, 1, none⟩ = some v4 ∧ w'.cell? ⟨g20, 0, none⟩ = some (.int .i64 v) ∧ w'.cell? ⟨g20, 1, none⟩ = some (.int .i64 hh)) (ds := [24, 26, 28]) #[false, false, false, false, false, false, false, false, false, false, false, false, false, false, false, false, false, false, false, false, false, false, false, false, false, false, false, false, false] (by kernel_rfl) rfl rfl HSS.out (fun hHeld => ?_)
       refine with_tabW tr16_tab tr16_bits (fun HT_ HW_ => ?_)
       generalize w7.drew = wD at HSD K20 HSS hHeld ⊢
       refine pure_ (i := 0) (N := some 88) (v := ?_) (a' := ?_) #[true, false, false, false, false, false, false, false, false, false, false, false, false, false, false, false, false, false, false, false, false, false, false, false, false, false, false, false, false] rfl rfl (any_of HT_.out (by kernel_rfl)) (fun _ _ _ h => h) (Or.inl ⟨by rfl, ?_⟩) ?_ ?_
       rotate_left
       · intro w'
         go_simp
         with_reducible rfl
       rotate_left
       · simp only [Act.put, List.setIfInBounds_toArray, List.set_cons_zero, List.set_cons_succ, i64_w, i32_w]
         rfl
       refine pure_ (i := 1) (N := some 89) (v := ?_) (a' := ?_) #[true, true, false, false, false, false, false, false, false, false, false, false, false, false, false, false, false, false, false, false, false, false, false, false, false, false, false, false, false] rfl rfl (any_of HT_.out (by kernel_rfl)) (fun _ _ _ h => h) (Or.inl ⟨by rfl, ?_⟩) ?_ ?_
       rotate_left
       · intro w'
         go_simp
         with_reducible rfl
       rotate_left
       · simp only [Act.put, List.setIfInBounds_toArray, List.set_cons_zero, List.set_cons_succ, i64_w, i32_w]
         rfl
       refine pure_ (i := 2) (N := some 90) (v := ?_) (a' := ?_) #[true, true, true, false, false, false, false, false, false, false, false, false, false, false, false, false, false, false, false, false, false, false, false, false, false, false, false, false, false] rfl rfl (any_of HT_.out (by kernel_rfl)) (fun _ _ _ h => h) (Or.inl ⟨by rfl, ?_⟩) ?_ ?_
       rotate_left
       · intro w'
         go_simp
         with_reducible rfl
       rotate_left
       · simp only [Act.put, List.setIfInBounds_toArray, List.set_cons_zero, List.set_cons_succ, i64_w, i32_w]
         rfl
       refine pure_ (i := 3) (N := some 91) (v := ?_) (a' := ?_) #[true, true, true, true, false, false, false, false, false, false, false, false, false, false, false, false, false, false, false, false, false, false, false, false, false, false, false, false, false] rfl rfl (any_of HT_.out (by kernel_rfl)) (fun _ _ _ h => h) (Or.inl ⟨by rfl, ?_⟩) ?_ ?_
       rotate_left
       · intro w'
         go_simp
         with_reducible rfl
       rotate_left
       · simp only [Act.put, List.setIfInBounds_toArray, List.set_cons_zero, List.set_cons_succ, i64_w, i32_w]
         rfl
       refine pure_ (i := 4) (N := some 92) (v := ?_) (a' := ?_) #[true, true, true, true, true, false, false, false, false, false, false, false, false, false, false, false, false, false, false, false, false, false, false, false, false, false, false, false, false] rfl rfl (any_of HT_.out (by kernel_rfl)) (fun _ _ _ h => h) (Or.inl ⟨by rfl, ?_⟩) ?_ ?_
       rotate_left
       · intro w'
         go_simp
         with_reducible rfl
       rotate_left
       · simp only [Act.put, List.setIfInBounds_toArray, List.set_cons_zero, List.set_cons_succ, i64_w, i32_w]
         rfl
       refine take_ (i := 5) (N := some 93) (v := ?_) (a' := ?_) #[true, true, true, true, true, true, false, false, false, false, false, false, false, false, false, false, false, false, false, false, false, false, false, false, false, false, false, false, false] rfl rfl (take_ofW HT_.out HW_.out (by kernel_rfl)) (fun _ _ _ h => h) (Or.inl ⟨by rfl, ?_⟩) hHeld ?_ ?_
       rotate_left
       · rintro w' ⟨s0, s1, s2, s3, s4⟩
         go_simp
         with_reducible rfl
       rotate_left
       · simp only [Act.put, List.setIfInBounds_toArray, List.set_cons_zero, List.set_cons_succ, i64_w, i32_w]
         rfl
       refine pure_ (i := 6) (N := some 94) (v := ?_) (a' := ?_) #[true, true, true, true, true, true, true, false, false, false, false, false, false, false, false, false, false, false, false, false, false, false, false, false, false, false, false, false, false] rfl rfl (any_of HT_.out (by kernel_rfl)) (fun _ _ _ h => h) (Or.inl ⟨by rfl, ?_⟩) ?_ ?_
       rotate_left
       · intro w'
         go_simp
         with_reducible rfl
       rotate_left
       · simp only [Act.put, List.setIfInBounds_toArray, List.set_cons_zero, List.set_cons_succ, i64_w, i32_w]
         rfl
       refine pure_ (i := 9) (N := some 97) (v := ?_) (a' := ?_) #[true, true, true, true, true, true, true, false, false, true, false, false, false, false, false, false, false, false, false, false, false, false, false, false, false, false, false, false, false] rfl rfl (any_of HT_.out (by kernel_rfl)) (fun _ _ _ h => h) (Or.inl ⟨by rfl, ?_⟩) ?_ ?_
       rotate_left
       · intro w'
         go_simp
         with_reducible rfl
       rotate_left
       · simp only [Act.put, List.setIfInBounds_toArray, List.set_cons_zero, List.set_cons_succ, i64_w, i32_w]
         rfl
       refine pure_ (i := 10) (N := some 98) (v := ?_) (a' := ?_) #[true, true, true, true, true, true, true, false, false, true, true, false, false, false, false, false, false, false, false, false, false, false, false, false, false, false, false, false, false] rfl rfl (any_of HT_.out (by kernel_rfl)) (fun _ _ _ h => h) (Or.inl ⟨by rfl, ?_⟩) ?_ ?_
       rotate_left
       · intro w'
         go_simp
         with_reducible rfl
       rotate_left
       · simp only [Act.put, List.setIfInBounds_toArray, List.set_cons_zero, List.set_cons_succ, i64_w, i32_w]
         rfl
       refine take_ (i := 11) (N := some 99) (v := ?_) (a' := ?_) #[true, true, true, true, true, true, true, false, false, true, true, true, false, false, false, false, false, false, false, false, false, false, false, false, false, false, false, false, false] rfl rfl (take_ofW HT_.out HW_.out (by kernel_rfl)) (fun _ _ _ h => h) (Or.inl ⟨by rfl, ?_⟩) hHeld ?_ ?_
       rotate_left
       · rintro w' ⟨s0, s1, s2, s3, s4⟩
         go_simp
         with_reducible rfl
       rotate_left
       · simp only [Act.put, List.setIfInBounds_toArray, List.set_cons_zero, List.set_cons_succ, i64_w, i32_w]
         rfl
       refine pure_ (i := 12) (N := some 100) (v := ?_) (a' := ?_) #[true, true, true, true, true, true, true, false, false, true, true, true, true, false, false, false, false, false, false, false, false, false, false, false, false, false, false, false, false] rfl rfl (any_of HT_.out (by kernel_rfl)) (fun _ _ _ h => h) (Or.inl ⟨by rfl, ?_⟩) ?_ ?_
       rotate_left
       · intro w'
         go_simp
         with_reducible rfl
       rotate_left
       · simp only [Act.put, List.setIfInBounds_toArray, List.set_cons_zero, List.set_cons_succ, i64_w, i32_w]
         rfl
       refine take_ (i := 13) (N := some 101) (v := ?_) (a' := ?_) #[true, true, true, true, true, true, true, false, false, true, true, true, true, true, false, false, false, false, false, false, false, false, false, false, false, false, false, false, false] rfl rfl (take_ofW HT_.out HW_.out (by kernel_rfl)) (fun _ _ _ h => h) (Or.inl ⟨by rfl, ?_⟩) hHeld ?_ ?_
       rotate_left
       · rintro w' ⟨s0, s1, s2, s3, s4⟩
         go_simp
         with_reducible rfl
       rotate_left
       · simp only [Act.put, List.setIfInBounds_toArray, List.set_cons_zero, List.set_cons_succ, i64_w, i32_w]
         rfl
       refine pure_ (i := 16) (N := some 104) (v := ?_) (a' := ?_) #[true, true, true, true, true, true, true, false, false, true, true, true, true, true, false, false, true, false, false, false, false, false, false, false, false, false, false, false, false] rfl rfl (any_of HT_.out (by kernel_rfl)) (fun _ _ _ h => h) (Or.inl ⟨by rfl, ?_⟩) ?_ ?_
       rotate_left
       · intro w'
         go_simp
         with_reducible rfl
       rotate_left
       · simp only [Act.put, List.setIfInBounds_toArray, List.set_cons_zero, List.set_cons_succ, i64_w, i32_w]
         rfl
       refine pure_ (i := 17) (N := some 105) (v := ?_) (a' := ?_) #[true, true, true, true, true, true, true, false, false, true, true, true, true, true, false, false, true, true, false, false, false, false, false, false, false, false, false, false, false] rfl rfl (any_of HT_.out (by kernel_rfl)) (fun _ _ _ h => h) (Or.inl ⟨by rfl, ?_⟩) ?_ ?_
       rotate_left
       · intro w'
         go_simp
         with_reducible rfl
       rotate_left
       · simp only [Act.put, List.setIfInBounds_toArray, List.set_cons_zero, List.set_cons_succ, i64_w, i32_w]
         rfl
       refine take_ (i := 18) (N := some 106) (v := ?_) (a' := ?_) #[true, true, true, true, true, true, true, false, false, true, true, true, true, true, false, false, true, true, true, false, false, false, false, false, false, false, false, false, false] rfl rfl (take_ofW HT_.out HW_.out (by kernel_rfl)) (fun _ _ _ h => h) (Or.inl ⟨by rfl, ?_⟩) hHeld ?_ ?_
       rotate_left
       · rintro w' ⟨s0, s1, s2, s3, s4⟩
         go_simp
         with_reducible rfl
       rotate_left
       · simp only [Act.put, List.setIfInBounds_toArray, List.set_cons_zero, List.set_cons_succ, i64_w, i32_w]
         rfl
       refine pure_ (i := 19) (N := some 107) (v := ?_) (a' := ?_) #[true, true, true, true, true, true, true, false, false, true, true, true, true, true, false, false, true, true, true, true, false, false, false, false, false, false, false, false, false] rfl rfl (any_of HT_.out (by kernel_rfl)) (fun _ _ _ h => h) (Or.inl ⟨by rfl, ?_⟩) ?_ ?_
       rotate_left
       · intro w'
         go_simp
         with_reducible rfl
       rotate_left
       · simp only [Act.put, List.setIfInBounds_toArray, List.set_cons_zero, List.set_cons_succ, i64_w, i32_w]
         rfl
       refine take_ (i := 20) (N := some 108) (v := ?_) (a' := ?_) #[true, true, true, true, true, true, true, false, false, true, true, true, true, true, false, false, true, true, true, true, true, false, false, false, false, false, false, false, false] rfl rfl (take_ofW HT_.out HW_.out (by kernel_rfl)) (fun _ _ _ h => h) (Or.inl ⟨by rfl, ?_⟩) hHeld ?_ ?_
       rotate_left
       · rintro w' ⟨s0, s1, s2, s3, s4⟩
         go_simp
         with_reducible rfl
       rotate_left
       · simp only [Act.put, List.setIfInBounds_toArray, List.set_cons_zero, List.set_cons_succ, i64_w, i32_w]
         rfl
       have HBL := Aside0.mk (C5.lt HSD.out.g HSD.out.s.1)
       refine chains3w (by kernel_rfl) _ wD wO.heap.size v2 v3 v4 (trF b l2 l3 a.length i) (loF b i) (hiF b l2 a.length i) tt v hh g12 1 rfl rfl rfl rfl rfl rfl rfl rfl rfl (by omega) (by have := HRL.out; omega) HSD.out.o.o2 HSD.out.o.o3 HSD.out.o.o4 HSD.out.o.d23 HSD.out.o.d24 HSD.out.o.d34 HSD.out.s.2 (fun W' hB_ hP_ => ⟨(blk_cell ((hB_.block _ (HBL.out.2.2.1)).trans HSD.out.c.c2) 1).trans rfl, (blk_cell ((hB_.block _ (HBL.out.2.2.2.1)).trans HSD.out.c.c3) 1).trans rfl, (blk_cell ((hB_.block _ (HBL.out.2.2.2.2.1)).trans HSD.out.c.c4) 1).trans rfl, (blk_cell (hP_ g20 _ K20.out HN20.out.2.2.1 HN20.out.2.2.2.1 HN20.out.2.2.2.2) 0).trans rfl, (blk_cell (hP_ g20 _ K20.out HN20.out.2.2.1 HN20.out.2.2.2.1 HN20.out.2.2.2.2) 1).trans rfl⟩) (fun _ _ _ _ h => h) ?_
       intro t95 t102 t109 n2 n3 n4 w8 hB_ hO2 hO3 hO4 d23 d24 d34 ee2 ee3 ee4 hk_
       have hst := HSD.out.app234 hB_ (HSD.out.o.app234 hO2 hO3 hO4 d23 d24 d34 ee2 ee3 ee4 hk_)
       rw [HR.out.2.2.1, HR.out.2.2.2.1, HR.out.2.2.2.2] at hst
       rw [HR.out.2.2.1] at hO2
       rw [HR.out.2.2.2.1] at hO3
       rw [HR.out.2.2.2.2] at hO4
       obtain ⟨g2_, cp2, hq2⟩ := hO2.form (by unfold trF; rw [range_len]; omega)
       rw [show ((trF b l2 l3 a.length (i + 1))).length = i + 1 by unfold trF; rw [range_len]] at hq2
       obtain ⟨g3_, cp3, hq3⟩ := hO3.form (by unfold loF; rw [range_len]; omega)
       rw [show ((loF b (i + 1))).length = i + 1 by unfold loF; rw [range_len]] at hq3
       obtain ⟨g4_, cp4, hq4⟩ := hO4.form (by unfold hiF; rw [range_len]; omega)
       rw [show ((hiF b l2 a.length (i + 1))).length = i + 1 by unfold hiF; rw [range_len]] at hq4
       subst hq2
       subst hq3
       subst hq4
       have HSK := Aside0.mk hst
       clear hB_ hO2 hO3 hO4 d23 d24 d34 ee2 ee3 ee4 hk_ hst HSD K20 HBL hHeld HSS
       refine norm_ (a' := ?_) ?_ ?_
       rotate_left
       · show Act.put _ (some 110) _ = _
         simp only [Act.put, List.setIfInBounds_toArray, List.set_cons_zero, List.set_cons_succ, i64_w, i32_w]
         rfl
       have s0 := (blk_cell (HSK.out.c.c2) 1).trans rfl
       have f0 := blk_frozen (HSK.out.c.c2) 1
       refine last_ (i := 24) (N := none) #[true, true, true, true, true, true, true, true, true, true, true, true, true, true, true, true, true, true, true, true, true, true, true, true, true, false, false, false, false] rfl rfl (one_of HT_.out (by kernel_rfl)) (by decide) (fun K hK => ?_)
       refine store_step (by rfl) rfl (w1 := w8.setCell ⟨g12, 1, none⟩ (.slice (some ⟨g2_, 0, none⟩) (i + 1) cp2)) ?hr ?_
       (case hr => first | (go_simp; done) | (go_simp; rfl))
       clear s0 f0
       have HSL := Aside0.mk (HSK.out.set21 (v := (.slice (some ⟨g2_, 0, none⟩) (i + 1) cp2)))
       clear HSK
       generalize w8.setCell ⟨g12, 1, none⟩ (.slice (some ⟨g2_, 0, none⟩) (i + 1) cp2) = w9 at HSL ⊢
       refine hK.out _ _ ?_
       clear hK K
       refine pure_ (i := 25) (N := some 112) (v := ?_) (a' := ?_) #[true, true, true, true, true, true, true, true, true, true, true, true, true, true, true, true, true, true, true, true, true, true, true, true, true, true, false, false, false] rfl rfl (any_of HT_.out (by kernel_rfl)) (fun _ _ _ h => h) (Or.inl ⟨by rfl, ?_⟩) ?_ ?_
       rotate_left
       · intro w'
         go_simp
         with_reducible rfl
       rotate_left
       · simp only [Act.put, List.setIfInBounds_toArray, List.set_cons_zero, List.set_cons_succ, i64_w, i32_w]
         rfl
       have s0 := (blk_cell (HSL.out.c.c3) 1).trans rfl
       have f0 := blk_frozen (HSL.out.c.c3) 1
       refine last_ (i := 26) (N := none) #[true, true, true, true, true, true, true, true, true, true, true, true, true, true, true, true, true, true, true, true, true, true, true, true, true, true, true, false, false] rfl rfl (one_of HT_.out (by kernel_rfl)) (by decide) (fun K hK => ?_)
       refine store_step (by rfl) rfl (w1 := w9.setCell ⟨g13, 1, none⟩ (.slice (some ⟨g3_, 0, none⟩) (i + 1) cp3)) ?hr ?_
       (case hr => first | (go_simp; done) | (go_simp; rfl))
       clear s0 f0
       have HSM := Aside0.mk (HSL.out.set31 (v := (.slice (some ⟨g3_, 0, none⟩) (i + 1) cp3)))
       clear HSL
       generalize w9.setCell ⟨g13, 1, none⟩ (.slice (some ⟨g3_, 0, none⟩) (i + 1) cp3) = w10 at HSM ⊢
       refine hK.out _ _ ?_
       clear hK K
       refine pure_ (i := 27) (N := some 113) (v := ?_) (a' := ?_) #[true, true, true, true, true, true, true, true, true, true, true, true, true, true, true, true, true, true, true, true, true, true, true, true, true, true, true, true, false] rfl rfl (any_of HT_.out (by kernel_rfl)) (fun _ _ _ h => h) (Or.inl ⟨by rfl, ?_⟩) ?_ ?_
       rotate_left
       · intro w'
         go_simp
         with_reducible rfl
       rotate_left
       · simp only [Act.put, List.setIfInBounds_toArray, List.set_cons_zero, List.set_cons_succ, i64_w, i32_w]
         rfl
       have s0 := (blk_cell (HSM.out.c.c4) 1).trans rfl
       have f0 := blk_frozen (HSM.out.c.c4) 1
       refine last_ (i := 28) (N := none) #[true, true, true, true, true, true, true, true, true, true, true, true, true, true, true, true, true, true, true, true, true, true, true, true, true, true, true, true, true] rfl rfl (one_of HT_.out (by kernel_rfl)) (by decide) (fun K hK => ?_)
       refine store_step (by rfl) rfl (w1 := w10.setCell ⟨g14, 1, none⟩ (.slice (some ⟨g4_, 0, none⟩) (i + 1) cp4)) ?hr ?_
       (case hr => first | (go_simp; done) | (go_simp; rfl))
       clear s0 f0
       have HSN := Aside0.mk (HSM.out.set41 (v := (.slice (some ⟨g4_, 0, none⟩) (i + 1) cp4)))
       clear HSM
       generalize w10.setCell ⟨g14, 1, none⟩ (.slice (some ⟨g4_, 0, none⟩) (i + 1) cp4) = w11 at HSN ⊢
       refine hK.out _ _ ?_
       clear hK K
       refine done_ (done_of HT_.out (by kernel_rfl)) ?_
       clear HT_ HW_
       have HIN := Aside0.mk (show i ≤ 1000 ∧ cn ≤ 1000 by have := HRL.out.1; unfold spF at this; rw [range_len] at this; have := HPQ.out.2.2.1; omega)
       go_wp2
       refine ⟨⟨i + 1, cn + 1, _, _, _, _, _, congrArg _ (wrap_up cn (by have := HIN.out; omega)), congrArg _ (wrap_up i (by have := HIN.out; omega)), ⟨n1, by have := HI.out.2; omega⟩, HSN⟩, ?_⟩
       rw [wrap_up i (by have := HIN.out; omega)]; exact meas_up b.length i n1
     · have hin : i = b.length := by have := HI.out.1; omega
       have hd : decide ((i : Int) < (b.length : Int)) = false := decide_eq_false (by omega)
       have hst := HST.out
       rw [hin] at hst
       clear HST
       have HSX := Aside0.mk hst
       have HCN2 := Aside0.mk (show cn = a.length + b.length by have := HI.out.2; omega)
       clear hst hin
       go_wp2
       exact ⟨⟨2, cn, e0, v0, e1, v1, e2, v2, e3, v3, e4, v4, rfl, rfl, ⟨by omega⟩, ⟨by rw [if_neg (by omega), if_neg (by omega)]⟩, ⟨HSX.out.c⟩, ⟨⟨HSX.out.b, Nat.le_trans HSX.out.s.1 HSX.out.s.2⟩⟩, ⟨by rw [if_neg (by omega)]; exact HO5.out.keep HSX.out.kf⟩, ⟨by rw [if_neg (by omega)]; exact HSX.out.o.mono HSX.out.s.1⟩⟩, by decide⟩
  | 2, HK, HCN, HOA, HOB =>
    have ha := HOA.out
    have hb := HOB.out
    rw [if_neg (by omega)] at ha hb
    have hal := HS.out.1.1
    have hbl := HS.out.2.1
    have hal5 := HS.out.1.2.1
    have hbl5 := HS.out.2.2.1
    clear HOA HOB
    obtain ⟨Ae0, ce0, qe0, h1e0, h2e0⟩ := Kd.R_reads (ha.o0).R
    have Ce0 := Aside0.mk (And.intro h1e0 h2e0)
    clear h1e0 h2e0
    obtain ⟨Af0, cf0, qf0, h1f0, h2f0⟩ := Kd.R_reads (hb.o0).R
    have Cf0 := Aside0.mk (And.intro h1f0 h2f0)
    clear h1f0 h2f0
    obtain ⟨Ae1, ce1, qe1, h1e1, h2e1⟩ := Kd.R_reads (ha.o1).R
    have Ce1 := Aside0.mk (And.intro h1e1 h2e1)
    clear h1e1 h2e1
    obtain ⟨Af1, cf1, qf1, h1f1, h2f1⟩ := Kd.R_reads (hb.o1).R
    have Cf1 := Aside0.mk (And.intro h1f1 h2f1)
    clear h1f1 h2f1
    have lne2 : (trF a l2 l3 0 a.length).length = a.length := range_len _ _
    obtain ⟨Ae2, ce2, qe2, _, re2, _⟩ := R2.of_own ha.o2 (fun e => by rw [e, List.length_nil] at lne2; omega) (by rw [lne2]; omega)
    have Ce2 := Aside0.mk (And.intro re2.le.1 re2.C)
    clear re2
    have lnf2 : (trF b l2 l3 a.length b.length).length = b.length := range_len _ _
    obtain ⟨Af2, cf2, qf2, _, rf2, _⟩ := R2.of_own hb.o2 (fun e => by rw [e, List.length_nil] at lnf2; omega) (by rw [lnf2]; omega)
    have Cf2 := Aside0.mk (And.intro rf2.le.1 rf2.C)
    clear rf2
    have lne3 : (loF a a.length).length = a.length := range_len _ _
    obtain ⟨Ae3, ce3, qe3, _, re3, _⟩ := R2.of_own ha.o3 (fun e => by rw [e, List.length_nil] at lne3; omega) (by rw [lne3]; omega)
    have Ce3 := Aside0.mk (And.intro re3.le.1 re3.C)
    clear re3
    have lnf3 : (loF b b.length).length = b.length := range_len _ _
    obtain ⟨Af3, cf3, qf3, _, rf3, _⟩ := R2.of_own hb.o3 (fun e => by rw [e, List.length_nil] at lnf3; omega) (by rw [lnf3]; omega)
    have Cf3 := Aside0.mk (And.intro rf3.le.1 rf3.C)
    clear rf3
    have lne4 : (hiF a l2 0 a.length).length = a.length := range_len _ _
    obtain ⟨Ae4, ce4, qe4, _, re4, _⟩ := R2.of_own ha.o4 (fun e => by rw [e, List.length_nil] at lne4; omega) (by rw [lne4]; omega)
    have Ce4 := Aside0.mk (And.intro re4.le.1 re4.C)
    clear re4
    have lnf4 : (hiF b l2 a.length b.length).length = b.length := range_len _ _
    obtain ⟨Af4, cf4, qf4, _, rf4, _⟩ := R2.of_own hb.o4 (fun e => by rw [e, List.length_nil] at lnf4; omega) (by rw [lnf4]; omega)
    have Cf4 := Aside0.mk (And.intro rf4.le.1 rf4.C)
    clear rf4
    subst qe0 qf0 qe1 qf1 qe2 qf2 qe3 qf3 qe4 qf4
    obtain ⟨s0, s1, c0_, c1_, hw1, hw2, hs0, hs1, h1, h2, h3, h4, h5, h6⟩ := true_law a b l2 l3 HS.out.1 HS.out.2 0 a.length
    obtain ⟨nb, hnb⟩ : ∃ n, n = beatsI (trF a l2 l3 0 a.length) (trF b l2 l3 a.length b.length) := ⟨_, rfl⟩
    rw [← hnb] at h1 h2 h5 h6
    have lb := fun (u v : List Int) (hu : u.length ≤ 40) (hv : v.length ≤ 40) => lbeats_f u v 2000 hu hv (by omega)
    have HLA := Aside0.mk (show pianolalaw10_beats.f 2000 (trF a l2 l3 0 a.length) (trF b l2 l3 a.length b.length) = some nb ∧ pianolalaw10_beats.f 2000 (hiF a l2 0 a.length) (loF b b.length) = some s0 ∧ pianolalaw10_beats.f 2000 (loF a a.length) (hiF b l2 a.length b.length) = some s1 from ⟨by rw [lb _ _ (by rw [lne2]; omega) (by rw [lnf2]; omega), hnb], by rw [lb _ _ (by rw [lne4]; omega) (by rw [lnf3]; omega), hs0], by rw [lb _ _ (by rw [lne3]; omega) (by rw [lnf4]; omega), hs1]⟩)
    have HWI := Aside0.mk (And.intro hw1 hw2)
    have z1 : decide (s0 ≤ nb) = true := decide_eq_true h1
    have z2 : decide (nb ≤ s1) = true := decide_eq_true h2
    have z3 : decide (s0 ≤ c0_) = true := decide_eq_true h3
    have z4 : decide (c1_ ≤ s1) = true := decide_eq_true h4
    have z5 : decide (c0_ ≤ nb) = true := decide_eq_true h5
    have z6 : decide (nb ≤ c1_) = true := decide_eq_true h6
    clear lne2 lnf2 lne3 lnf3 lne4 lnf4 hs0 hs1 hnb lb hw1 hw2 ha hb hal hbl hal5 hbl5 HCN
    have f0 := (blk_cell HCC.out.c0 0).trans rfl
    have f1 := (blk_cell HCC.out.c0 1).trans rfl
    obtain ⟨wO, hwO⟩ : ∃ W : World, W = wr := ⟨_, rfl⟩
    subst hwO
    go_wp2_with fail
    clear f0 f1
    refine (hand_Within.calls _ _ _ _ _ _ s0 s1 0 _ Ce0.out.2 Ce0.out.1 Cf0.out.2 Cf0.out.1 HWI.out.1).mono ?_
    rintro e w2 ⟨rfl, hb⟩
    have hb2 := below_then hb hb.size (below_alloc (Below.refl w2.heap.size w2) (.cells #[.int .i64 s0, .int .i64 s1] 41))
    have HB2 := Aside0.mk hb2
    have K22 := Aside0.mk (blk_new w2 (.cells #[.int .i64 s0, .int .i64 s1] 41))
    have c1f := blk_below2 hb2 HCC.out.c1
    have f0 := (blk_cell c1f 0).trans rfl
    have f1 := (blk_cell c1f 1).trans rfl
    clear hb hb2 c1f
    go_wp2_with fail
    clear f0 f1
    refine (hand_Within.calls _ _ _ _ _ _ c0_ c1_ 0 _ (Kd.C_below Ce1.out.2 HB2.out) Ce1.out.1 (Kd.C_below Cf1.out.2 HB2.out) Cf1.out.1 HWI.out.2).mono ?_
    rintro e w3 ⟨rfl, hb⟩
    have hb2 := below_then hb hb.size (below_alloc (Below.refl w3.heap.size w3) (.cells #[.int .i64 c0_, .int .i64 c1_] 41))
    have HB3 := Aside0.mk (HB2.out.trans (hb2.mono HB2.out.size))
    have K24 := Aside0.mk (blk_new w3 (.cells #[.int .i64 c0_, .int .i64 c1_] 41))
    have K22b := Aside0.mk (blk_below2 hb2 K22.out)
    have c2f := blk_below2 HB3.out HCC.out.c2
    have f0 := (blk_cell c2f 0).trans rfl
    have f1 := (blk_cell c2f 1).trans rfl
    obtain ⟨g22, hg22⟩ : ∃ g, g = w2.heap.size := ⟨_, rfl⟩
    rw [← hg22] at K22b ⊢
    clear hb hb2 c2f hg22 HB2 K22
    go_wp2_with fail
    clear f0 f1
    refine (pianolalaw10_beats.calls 2000 _ _ _ _ _ _ nb _ (Kd.C_below Ce2.out.2 HB3.out) Ce2.out.1 (Kd.C_below Cf2.out.2 HB3.out) Cf2.out.1 HLA.out.1).mono ?_
    rintro e w4 ⟨rfl, hd⟩
    have hb := hd.below; clear hd
    have HB4 := Aside0.mk (HB3.out.trans (hb.mono HB3.out.size))
    have K22 := Aside0.mk (blk_below2 hb K22b.out)
    have K24b := Aside0.mk (blk_below2 hb K24.out)
    obtain ⟨g24, hg24⟩ : ∃ g, g = w3.heap.size := ⟨_, rfl⟩
    rw [← hg24] at K24b ⊢
    clear hb hg24 HB3 K22b K24
    go_upto_region 23 with fail
    have hbd : Below w4.heap.size w4 w4.drew := below_drew (Below.refl w4.heap.size w4)
    have HBD := Aside0.mk (HB4.out.trans (hbd.mono HB4.out.size))
    have K22D := Aside0.mk (blk_below2 hbd K22.out)
    have K24D := Aside0.mk (blk_below2 hbd K24b.out)
    clear hbd HB4 K22 K24b
    have HSS := Aside0.mk (show (fun w' => w'.cell? ⟨g22, 0, none⟩ = some (.int .i64 s0) ∧ w'.cell? ⟨g22, 1, none⟩ = some (.int .i64 s1) ∧ w'.cell? ⟨g24, 0, none⟩ = some (.int .i64 c0_) ∧ w'.cell? ⟨g24, 1, none⟩ = some (.int .i64 c1_) ∧ w'.cell? ⟨g14, 0, none⟩ = some (.slice (some ⟨Ae4, 0, none⟩) (hiF a l2 0 a.length).length ce4) ∧ w'.cell? ⟨g13, 1, none⟩ = some (.slice (some ⟨Af3, 0, none⟩) (loF b b.length).length cf3) ∧ w'.cell? ⟨g13, 0, none⟩ = some (.slice (some ⟨Ae3, 0, none⟩) (loF a a.length).length ce3) ∧ w'.cell? ⟨g14, 1, none⟩ = some (.slice (some ⟨Af4, 0, none⟩) (hiF b l2 a.length b.length).length cf4)) w4.drew from ⟨(blk_cell K22D.out 0).trans rfl, (blk_cell K22D.out 1).trans rfl, (blk_cell K24D.out 0).trans rfl, (blk_cell K24D.out 1).trans rfl, (blk_cell (blk_below2 HBD.out HCC.out.c4) 0).trans rfl, (blk_cell (blk_below2 HBD.out HCC.out.c3) 1).trans rfl, (blk_cell (blk_below2 HBD.out HCC.out.c3) 0).trans rfl, (blk_cell (blk_below2 HBD.out HCC.out.c4) 1).trans rfl⟩)
    refine start_ (n := 63) (S := fun w' => w'.cell? ⟨g22, 0, none⟩ = some (.int .i64 s0) ∧ w'.cell? ⟨g22, 1, none⟩ = some (.int .i64 s1) ∧ w'.cell? ⟨g24, 0, none⟩ = some (.int .i64 c0_) ∧ w'.cell? ⟨g24, 1, none⟩ = some (.int .i64 c1_) ∧ w'.cell? ⟨g14, 0, none⟩ = some (.slice (some ⟨Ae4, 0, none⟩) (hiF a l2 0 a.length).length ce4) ∧ w'.cell? ⟨g13, 1, none⟩ = some (.slice (some ⟨Af3, 0, none⟩) (loF b b.length).length cf3) ∧ w'.cell? ⟨g13, 0, none⟩ = some (.slice (some ⟨Ae3, 0, none⟩) (loF a a.length).length ce3) ∧ w'.cell? ⟨g14, 1, none⟩ = some (.slice (some ⟨Af4, 0, none⟩) (hiF b l2 a.length b.length).length cf4)) (ds := []) #[false, false, false, false, false, false, false, false, false, false, false, false, false, false, false, false, false, false, false, false, false, false, false, false, false, false, false, false, false, false, false, false, false, false, false, false, false, false, false, false, false, false, false, false, false, false, false, false, false, false, false, false, false, false, false, false, false, false, false, false, false, false, false] (by kernel_rfl) rfl rfl HSS.out (fun hHeld => ?_)
    refine with_tabW ut23_tab ut23_bits (fun HT_ HW_ => ?_)
    clear K22D K24D HSS
    generalize w4.drew = wD at HBD hHeld ⊢
    refine take_ (i := 0) (N := some 139) (v := ?_) (a' := ?_) #[true, false, false, false, false, false, false, false, false, false, false, false, false, false, false, false, false, false, false, false, false, false, false, false, false, false, false, false, false, false, false, false, false, false, false, false, false, false, false, false, false, false, false, false, false, false, false, false, false, false, false, false, false, false, false, false, false, false, false, false, false, false, false] rfl rfl (take_ofW HT_.out HW_.out (by kernel_rfl)) (fun _ _ _ h => h) (Or.inl ⟨by rfl, ?_⟩) hHeld ?_ ?_
    rotate_left
    · rintro w' ⟨x0, x1, x2, x3, x4, x5, x6, x7⟩
      go_simp
      with_reducible rfl
    rotate_left
    · simp only [Act.put, List.setIfInBounds_toArray, List.set_cons_zero, List.set_cons_succ, i64_w, i32_w]
      rfl
    refine take_ (i := 1) (N := some 140) (v := ?_) (a' := ?_) #[true, true, false, false, false, false, false, false, false, false, false, false, false, false, false, false, false, false, false, false, false, false, false, false, false, false, false, false, false, false, false, false, false, false, false, false, false, false, false, false, false, false, false, false, false, false, false, false, false, false, false, false, false, false, false, false, false, false, false, false, false, false, false] rfl rfl (take_ofW HT_.out HW_.out (by kernel_rfl)) (fun _ _ _ h => h) (Or.inl ⟨by rfl, ?_⟩) hHeld ?_ ?_
    rotate_left
    · rintro w' ⟨x0, x1, x2, x3, x4, x5, x6, x7⟩
      go_simp
      with_reducible rfl
    rotate_left
    · simp only [Act.put, List.setIfInBounds_toArray, List.set_cons_zero, List.set_cons_succ, i64_w, i32_w]
      rfl
    refine take_ (i := 2) (N := some 141) (v := ?_) (a' := ?_) #[true, true, true, false, false, false, false, false, false, false, false, false, false, false, false, false, false, false, false, false, false, false, false, false, false, false, false, false, false, false, false, false, false, false, false, false, false, false, false, false, false, false, false, false, false, false, false, false, false, false, false, false, false, false, false, false, false, false, false, false, false, false, false] rfl rfl (take_ofW HT_.out HW_.out (by kernel_rfl)) (fun _ _ _ h => h) (Or.inl ⟨by rfl, ?_⟩) hHeld ?_ ?_
    rotate_left
    · rintro w' ⟨x0, x1, x2, x3, x4, x5, x6, x7⟩
      go_simp
      with_reducible rfl
    rotate_left
    · simp only [Act.put, List.setIfInBounds_toArray, List.set_cons_zero, List.set_cons_succ, i64_w, i32_w]
      rfl
    refine take_ (i := 3) (N := some 142) (v := ?_) (a' := ?_) #[true, true, true, true, false, false, false, false, false, false, false, false, false, false, false, false, false, false, false, false, false, false, false, false, false, false, false, false, false, false, false, false, false, false, false, false, false, false, false, false, false, false, false, false, false, false, false, false, false, false, false, false, false, false, false, false, false, false, false, false, false, false, false] rfl rfl (take_ofW HT_.out HW_.out (by kernel_rfl)) (fun _ _ _ h => h) (Or.inl ⟨by rfl, ?_⟩) hHeld ?_ ?_
    rotate_left
    · rintro w' ⟨x0, x1, x2, x3, x4, x5, x6, x7⟩
      go_simp
      with_reducible rfl
    rotate_left
    · simp only [Act.put, List.setIfInBounds_toArray, List.set_cons_zero, List.set_cons_succ, i64_w, i32_w]
      rfl
    refine take_ (i := 4) (N := some 143) (v := ?_) (a' := ?_) #[true, true, true, true, true, false, false, false, false, false, false, false, false, false, false, false, false, false, false, false, false, false, false, false, false, false, false, false, false, false, false, false, false, false, false, false, false, false, false, false, false, false, false, false, false, false, false, false, false, false, false, false, false, false, false, false, false, false, false, false, false, false, false] rfl rfl (take_ofW HT_.out HW_.out (by kernel_rfl)) (fun _ _ _ h => h) (Or.inl ⟨by rfl, ?_⟩) hHeld ?_ ?_
    rotate_left
    · rintro w' ⟨x0, x1, x2, x3, x4, x5, x6, x7⟩
      go_simp
      with_reducible rfl
    rotate_left
    · simp only [Act.put, List.setIfInBounds_toArray, List.set_cons_zero, List.set_cons_succ, i64_w, i32_w]
      rfl
    refine take_ (i := 5) (N := some 144) (v := ?_) (a' := ?_) #[true, true, true, true, true, true, false, false, false, false, false, false, false, false, false, false, false, false, false, false, false, false, false, false, false, false, false, false, false, false, false, false, false, false, false, false, false, false, false, false, false, false, false, false, false, false, false, false, false, false, false, false, false, false, false, false, false, false, false, false, false, false, false] rfl rfl (take_ofW HT_.out HW_.out (by kernel_rfl)) (fun _ _ _ h => h) (Or.inl ⟨by rfl, ?_⟩) hHeld ?_ ?_
    rotate_left
    · rintro w' ⟨x0, x1, x2, x3, x4, x5, x6, x7⟩
      go_simp
      with_reducible rfl
    rotate_left
    · simp only [Act.put, List.setIfInBounds_toArray, List.set_cons_zero, List.set_cons_succ, i64_w, i32_w]
      rfl
    refine take_ (i := 6) (N := some 145) (v := ?_) (a' := ?_) #[true, true, true, true, true, true, true, false, false, false, false, false, false, false, false, false, false, false, false, false, false, false, false, false, false, false, false, false, false, false, false, false, false, false, false, false, false, false, false, false, false, false, false, false, false, false, false, false, false, false, false, false, false, false, false, false, false, false, false, false, false, false, false] rfl rfl (take_ofW HT_.out HW_.out (by kernel_rfl)) (fun _ _ _ h => h) (Or.inl ⟨by rfl, ?_⟩) hHeld ?_ ?_
    rotate_left
    · rintro w' ⟨x0, x1, x2, x3, x4, x5, x6, x7⟩
      go_simp
      with_reducible rfl
    rotate_left
    · simp only [Act.put, List.setIfInBounds_toArray, List.set_cons_zero, List.set_cons_succ, i64_w, i32_w]
      rfl
    refine take_ (i := 7) (N := some 146) (v := ?_) (a' := ?_) #[true, true, true, true, true, true, true, true, false, false, false, false, false, false, false, false, false, false, false, false, false, false, false, false, false, false, false, false, false, false, false, false, false, false, false, false, false, false, false, false, false, false, false, false, false, false, false, false, false, false, false, false, false, false, false, false, false, false, false, false, false, false, false] rfl rfl (take_ofW HT_.out HW_.out (by kernel_rfl)) (fun _ _ _ h => h) (Or.inl ⟨by rfl, ?_⟩) hHeld ?_ ?_
    rotate_left
    · rintro w' ⟨x0, x1, x2, x3, x4, x5, x6, x7⟩
      go_simp
      with_reducible rfl
    rotate_left
    · simp only [Act.put, List.setIfInBounds_toArray, List.set_cons_zero, List.set_cons_succ, i64_w, i32_w]
      rfl
    refine take_ (i := 8) (N := some 147) (v := ?_) (a' := ?_) #[true, true, true, true, true, true, true, true, true, false, false, false, false, false, false, false, false, false, false, false, false, false, false, false, false, false, false, false, false, false, false, false, false, false, false, false, false, false, false, false, false, false, false, false, false, false, false, false, false, false, false, false, false, false, false, false, false, false, false, false, false, false, false] rfl rfl (take_ofW HT_.out HW_.out (by kernel_rfl)) (fun _ _ _ h => h) (Or.inl ⟨by rfl, ?_⟩) hHeld ?_ ?_
    rotate_left
    · rintro w' ⟨x0, x1, x2, x3, x4, x5, x6, x7⟩
      go_simp
      with_reducible rfl
    rotate_left
    · simp only [Act.put, List.setIfInBounds_toArray, List.set_cons_zero, List.set_cons_succ, i64_w, i32_w]
      rfl
    refine take_ (i := 9) (N := some 148) (v := ?_) (a' := ?_) #[true, true, true, true, true, true, true, true, true, true, false, false, false, false, false, false, false, false, false, false, false, false, false, false, false, false, false, false, false, false, false, false, false, false, false, false, false, false, false, false, false, false, false, false, false, false, false, false, false, false, false, false, false, false, false, false, false, false, false, false, false, false, false] rfl rfl (take_ofW HT_.out HW_.out (by kernel_rfl)) (fun _ _ _ h => h) (Or.inl ⟨by rfl, ?_⟩) hHeld ?_ ?_
    rotate_left
    · rintro w' ⟨x0, x1, x2, x3, x4, x5, x6, x7⟩
      go_simp
      with_reducible rfl
    rotate_left
    · simp only [Act.put, List.setIfInBounds_toArray, List.set_cons_zero, List.set_cons_succ, i64_w, i32_w]
      rfl
    refine take_ (i := 10) (N := some 149) (v := ?_) (a' := ?_) #[true, true, true, true, true, true, true, true, true, true, true, false, false, false, false, false, false, false, false, false, false, false, false, false, false, false, false, false, false, false, false, false, false, false, false, false, false, false, false, false, false, false, false, false, false, false, false, false, false, false, false, false, false, false, false, false, false, false, false, false, false, false, false] rfl rfl (take_ofW HT_.out HW_.out (by kernel_rfl)) (fun _ _ _ h => h) (Or.inl ⟨by rfl, ?_⟩) hHeld ?_ ?_
    rotate_left
    · rintro w' ⟨x0, x1, x2, x3, x4, x5, x6, x7⟩
      go_simp
      with_reducible rfl
    rotate_left
    · simp only [Act.put, List.setIfInBounds_toArray, List.set_cons_zero, List.set_cons_succ, i64_w, i32_w]
      rfl
    refine take_ (i := 11) (N := some 150) (v := ?_) (a' := ?_) #[true, true, true, true, true, true, true, true, true, true, true, true, false, false, false, false, false, false, false, false, false, false, false, false, false, false, false, false, false, false, false, false, false, false, false, false, false, false, false, false, false, false, false, false, false, false, false, false, false, false, false, false, false, false, false, false, false, false, false, false, false, false, false] rfl rfl (take_ofW HT_.out HW_.out (by kernel_rfl)) (fun _ _ _ h => h) (Or.inl ⟨by rfl, ?_⟩) hHeld ?_ ?_
    rotate_left
    · rintro w' ⟨x0, x1, x2, x3, x4, x5, x6, x7⟩
      go_simp
      with_reducible rfl
    rotate_left
    · simp only [Act.put, List.setIfInBounds_toArray, List.set_cons_zero, List.set_cons_succ, i64_w, i32_w]
      rfl
    refine take_ (i := 12) (N := some 151) (v := ?_) (a' := ?_) #[true, true, true, true, true, true, true, true, true, true, true, true, true, false, false, false, false, false, false, false, false, false, false, false, false, false, false, false, false, false, false, false, false, false, false, false, false, false, false, false, false, false, false, false, false, false, false, false, false, false, false, false, false, false, false, false, false, false, false, false, false, false, false] rfl rfl (take_ofW HT_.out HW_.out (by kernel_rfl)) (fun _ _ _ h => h) (Or.inl ⟨by rfl, ?_⟩) hHeld ?_ ?_
    rotate_left
    · rintro w' ⟨x0, x1, x2, x3, x4, x5, x6, x7⟩
      go_simp
      with_reducible rfl
    rotate_left
    · simp only [Act.put, List.setIfInBounds_toArray, List.set_cons_zero, List.set_cons_succ, i64_w, i32_w]
      rfl
    refine take_ (i := 13) (N := some 152) (v := ?_) (a' := ?_) #[true, true, true, true, true, true, true, true, true, true, true, true, true, true, false, false, false, false, false, false, false, false, false, false, false, false, false, false, false, false, false, false, false, false, false, false, false, false, false, false, false, false, false, false, false, false, false, false, false, false, false, false, false, false, false, false, false, false, false, false, false, false, false] rfl rfl (take_ofW HT_.out HW_.out (by kernel_rfl)) (fun _ _ _ h => h) (Or.inl ⟨by rfl, ?_⟩) hHeld ?_ ?_
    rotate_left
    · rintro w' ⟨x0, x1, x2, x3, x4, x5, x6, x7⟩
      go_simp
      with_reducible rfl
    rotate_left
    · simp only [Act.put, List.setIfInBounds_toArray, List.set_cons_zero, List.set_cons_succ, i64_w, i32_w]
      rfl
    refine take_ (i := 14) (N := some 153) (v := ?_) (a' := ?_) #[true, true, true, true, true, true, true, true, true, true, true, true, true, true, true, false, false, false, false, false, false, false, false, false, false, false, false, false, false, false, false, false, false, false, false, false, false, false, false, false, false, false, false, false, false, false, false, false, false, false, false, false, false, false, false, false, false, false, false, false, false, false, false] rfl rfl (take_ofW HT_.out HW_.out (by kernel_rfl)) (fun _ _ _ h => h) (Or.inl ⟨by rfl, ?_⟩) hHeld ?_ ?_
    rotate_left
    · rintro w' ⟨x0, x1, x2, x3, x4, x5, x6, x7⟩
      go_simp
      with_reducible rfl
    rotate_left
    · simp only [Act.put, List.setIfInBounds_toArray, List.set_cons_zero, List.set_cons_succ, i64_w, i32_w]
      rfl
    refine take_ (i := 15) (N := some 154) (v := ?_) (a' := ?_) #[true, true, true, true, true, true, true, true, true, true, true, true, true, true, true, true, false, false, false, false, false, false, false, false, false, false, false, false, false, false, false, false, false, false, false, false, false, false, false, false, false, false, false, false, false, false, false, false, false, false, false, false, false, false, false, false, false, false, false, false, false, false, false] rfl rfl (take_ofW HT_.out HW_.out (by kernel_rfl)) (fun _ _ _ h => h) (Or.inl ⟨by rfl, ?_⟩) hHeld ?_ ?_
    rotate_left
    · rintro w' ⟨x0, x1, x2, x3, x4, x5, x6, x7⟩
      go_simp
      with_reducible rfl
    rotate_left
    · simp only [Act.put, List.setIfInBounds_toArray, List.set_cons_zero, List.set_cons_succ, i64_w, i32_w]
      rfl
    refine take_ (i := 16) (N := some 155) (v := ?_) (a' := ?_) #[true, true, true, true, true, true, true, true, true, true, true, true, true, true, true, true, true, false, false, false, false, false, false, false, false, false, false, false, false, false, false, false, false, false, false, false, false, false, false, false, false, false, false, false, false, false, false, false, false, false, false, false, false, false, false, false, false, false, false, false, false, false, false] rfl rfl (take_ofW HT_.out HW_.out (by kernel_rfl)) (fun _ _ _ h => h) (Or.inl ⟨by rfl, ?_⟩) hHeld ?_ ?_
    rotate_left
    · rintro w' ⟨x0, x1, x2, x3, x4, x5, x6, x7⟩
      go_simp
      with_reducible rfl
    rotate_left
    · simp only [Act.put, List.setIfInBounds_toArray, List.set_cons_zero, List.set_cons_succ, i64_w, i32_w]
      rfl
    refine take_ (i := 17) (N := some 156) (v := ?_) (a' := ?_) #[true, true, true, true, true, true, true, true, true, true, true, true, true, true, true, true, true, true, false, false, false, false, false, false, false, false, false, false, false, false, false, false, false, false, false, false, false, false, false, false, false, false, false, false, false, false, false, false, false, false, false, false, false, false, false, false, false, false, false, false, false, false, false] rfl rfl (take_ofW HT_.out HW_.out (by kernel_rfl)) (fun _ _ _ h => h) (Or.inl ⟨by rfl, ?_⟩) hHeld ?_ ?_
    rotate_left
    · rintro w' ⟨x0, x1, x2, x3, x4, x5, x6, x7⟩
      go_simp
      with_reducible rfl
    rotate_left
    · simp only [Act.put, List.setIfInBounds_toArray, List.set_cons_zero, List.set_cons_succ, i64_w, i32_w]
      rfl
    refine take_ (i := 18) (N := some 157) (v := ?_) (a' := ?_) #[true, true, true, true, true, true, true, true, true, true, true, true, true, true, true, true, true, true, true, false, false, false, false, false, false, false, false, false, false, false, false, false, false, false, false, false, false, false, false, false, false, false, false, false, false, false, false, false, false, false, false, false, false, false, false, false, false, false, false, false, false, false, false] rfl rfl (take_ofW HT_.out HW_.out (by kernel_rfl)) (fun _ _ _ h => h) (Or.inl ⟨by rfl, ?_⟩) hHeld ?_ ?_
    rotate_left
    · rintro w' ⟨x0, x1, x2, x3, x4, x5, x6, x7⟩
      go_simp
      with_reducible rfl
    rotate_left
    · simp only [Act.put, List.setIfInBounds_toArray, List.set_cons_zero, List.set_cons_succ, i64_w, i32_w]
      rfl
    refine take_ (i := 19) (N := some 158) (v := ?_) (a' := ?_) #[true, true, true, true, true, true, true, true, true, true, true, true, true, true, true, true, true, true, true, true, false, false, false, false, false, false, false, false, false, false, false, false, false, false, false, false, false, false, false, false, false, false, false, false, false, false, false, false, false, false, false, false, false, false, false, false, false, false, false, false, false, false, false] rfl rfl (take_ofW HT_.out HW_.out (by kernel_rfl)) (fun _ _ _ h => h) (Or.inl ⟨by rfl, ?_⟩) hHeld ?_ ?_
    rotate_left
    · rintro w' ⟨x0, x1, x2, x3, x4, x5, x6, x7⟩
      go_simp
      with_reducible rfl
    rotate_left
    · simp only [Act.put, List.setIfInBounds_toArray, List.set_cons_zero, List.set_cons_succ, i64_w, i32_w]
      rfl
    refine take_ (i := 20) (N := some 159) (v := ?_) (a' := ?_) #[true, true, true, true, true, true, true, true, true, true, true, true, true, true, true, true, true, true, true, true, true, false, false, false, false, false, false, false, false, false, false, false, false, false, false, false, false, false, false, false, false, false, false, false, false, false, false, false, false, false, false, false, false, false, false, false, false, false, false, false, false, false, false] rfl rfl (take_ofW HT_.out HW_.out (by kernel_rfl)) (fun _ _ _ h => h) (Or.inl ⟨by rfl, ?_⟩) hHeld ?_ ?_
    rotate_left
    · rintro w' ⟨x0, x1, x2, x3, x4, x5, x6, x7⟩
      go_simp
      with_reducible rfl
    rotate_left
    · simp only [Act.put, List.setIfInBounds_toArray, List.set_cons_zero, List.set_cons_succ, i64_w, i32_w]
      rfl
    refine take_ (i := 21) (N := some 160) (v := ?_) (a' := ?_) #[true, true, true, true, true, true, true, true, true, true, true, true, true, true, true, true, true, true, true, true, true, true, false, false, false, false, false, false, false, false, false, false, false, false, false, false, false, false, false, false, false, false, false, false, false, false, false, false, false, false, false, false, false, false, false, false, false, false, false, false, false, false, false] rfl rfl (take_ofW HT_.out HW_.out (by kernel_rfl)) (fun _ _ _ h => h) (Or.inl ⟨by rfl, ?_⟩) hHeld ?_ ?_
    rotate_left
    · rintro w' ⟨x0, x1, x2, x3, x4, x5, x6, x7⟩
      go_simp
      with_reducible rfl
    rotate_left
    · simp only [Act.put, List.setIfInBounds_toArray, List.set_cons_zero, List.set_cons_succ, i64_w, i32_w]
      rfl
    refine take_ (i := 22) (N := some 161) (v := ?_) (a' := ?_) #[true, true, true, true, true, true, true, true, true, true, true, true, true, true, true, true, true, true, true, true, true, true, true, false, false, false, false, false, false, false, false, false, false, false, false, false, false, false, false, false, false, false, false, false, false, false, false, false, false, false, false, false, false, false, false, false, false, false, false, false, false, false, false] rfl rfl (take_ofW HT_.out HW_.out (by kernel_rfl)) (fun _ _ _ h => h) (Or.inl ⟨by rfl, ?_⟩) hHeld ?_ ?_
    rotate_left
    · rintro w' ⟨x0, x1, x2, x3, x4, x5, x6, x7⟩
      go_simp
      with_reducible rfl
    rotate_left
    · simp only [Act.put, List.setIfInBounds_toArray, List.set_cons_zero, List.set_cons_succ, i64_w, i32_w]
      rfl
    refine take_ (i := 23) (N := some 162) (v := ?_) (a' := ?_) #[true, true, true, true, true, true, true, true, true, true, true, true, true, true, true, true, true, true, true, true, true, true, true, true, false, false, false, false, false, false, false, false, false, false, false, false, false, false, false, false, false, false, false, false, false, false, false, false, false, false, false, false, false, false, false, false, false, false, false, false, false, false, false] rfl rfl (take_ofW HT_.out HW_.out (by kernel_rfl)) (fun _ _ _ h => h) (Or.inl ⟨by rfl, ?_⟩) hHeld ?_ ?_
    rotate_left
    · rintro w' ⟨x0, x1, x2, x3, x4, x5, x6, x7⟩
      go_simp
      with_reducible rfl
    rotate_left
    · simp only [Act.put, List.setIfInBounds_toArray, List.set_cons_zero, List.set_cons_succ, i64_w, i32_w]
      rfl
    refine take_ (i := 25) (N := some 164) (v := ?_) (a' := ?_) #[true, true, true, true, true, true, true, true, true, true, true, true, true, true, true, true, true, true, true, true, true, true, true, true, false, true, false, false, false, false, false, false, false, false, false, false, false, false, false, false, false, false, false, false, false, false, false, false, false, false, false, false, false, false, false, false, false, false, false, false, false, false, false] rfl rfl (take_ofW HT_.out HW_.out (by kernel_rfl)) (fun _ _ _ h => h) (Or.inl ⟨by rfl, ?_⟩) hHeld ?_ ?_
    rotate_left
    · rintro w' ⟨x0, x1, x2, x3, x4, x5, x6, x7⟩
      go_simp
      with_reducible rfl
    rotate_left
    · simp only [Act.put, List.setIfInBounds_toArray, List.set_cons_zero, List.set_cons_succ, i64_w, i32_w]
      rfl
    refine take_ (i := 26) (N := some 165) (v := ?_) (a' := ?_) #[true, true, true, true, true, true, true, true, true, true, true, true, true, true, true, true, true, true, true, true, true, true, true, true, false, true, true, false, false, false, false, false, false, false, false, false, false, false, false, false, false, false, false, false, false, false, false, false, false, false, false, false, false, false, false, false, false, false, false, false, false, false, false] rfl rfl (take_ofW HT_.out HW_.out (by kernel_rfl)) (fun _ _ _ h => h) (Or.inl ⟨by rfl, ?_⟩) hHeld ?_ ?_
    rotate_left
    · rintro w' ⟨x0, x1, x2, x3, x4, x5, x6, x7⟩
      go_simp
      with_reducible rfl
    rotate_left
    · simp only [Act.put, List.setIfInBounds_toArray, List.set_cons_zero, List.set_cons_succ, i64_w, i32_w]
      rfl
    refine take_ (i := 27) (N := some 166) (v := ?_) (a' := ?_) #[true, true, true, true, true, true, true, true, true, true, true, true, true, true, true, true, true, true, true, true, true, true, true, true, false, true, true, true, false, false, false, false, false, false, false, false, false, false, false, false, false, false, false, false, false, false, false, false, false, false, false, false, false, false, false, false, false, false, false, false, false, false, false] rfl rfl (take_ofW HT_.out HW_.out (by kernel_rfl)) (fun _ _ _ h => h) (Or.inl ⟨by rfl, ?_⟩) hHeld ?_ ?_
    rotate_left
    · rintro w' ⟨x0, x1, x2, x3, x4, x5, x6, x7⟩
      go_simp
      with_reducible rfl
    rotate_left
    · simp only [Act.put, List.setIfInBounds_toArray, List.set_cons_zero, List.set_cons_succ, i64_w, i32_w]
      rfl
    refine take_ (i := 28) (N := some 167) (v := ?_) (a' := ?_) #[true, true, true, true, true, true, true, true, true, true, true, true, true, true, true, true, true, true, true, true, true, true, true, true, false, true, true, true, true, false, false, false, false, false, false, false, false, false, false, false, false, false, false, false, false, false, false, false, false, false, false, false, false, false, false, false, false, false, false, false, false, false, false] rfl rfl (take_ofW HT_.out HW_.out (by kernel_rfl)) (fun _ _ _ h => h) (Or.inl ⟨by rfl, ?_⟩) hHeld ?_ ?_
    rotate_left
    · rintro w' ⟨x0, x1, x2, x3, x4, x5, x6, x7⟩
      go_simp
      with_reducible rfl
    rotate_left
    · simp only [Act.put, List.setIfInBounds_toArray, List.set_cons_zero, List.set_cons_succ, i64_w, i32_w]
      rfl
    refine one_ (i := 24) (N := some 163) #[true, true, true, true, true, true, true, true, true, true, true, true, true, true, true, true, true, true, true, true, true, true, true, true, true, true, true, true, true, false, false, false, false, false, false, false, false, false, false, false, false, false, false, false, false, false, false, false, false, false, false, false, false, false, false, false, false, false, false, false, false, false, false] rfl rfl (one_of HT_.out (by kernel_rfl)) (by decide) (fun K hK => ?_)
    refine goes_ Try.func33 (by kernel_rfl) rfl #[.slice (some ⟨Ae4, 0, none⟩) (hiF a l2 0 a.length).length ce4, .slice (some ⟨Af3, 0, none⟩) (loF b b.length).length cf3] (by rfl) rfl rfl (by (try simp only [List.map_toArray, List.map_cons, List.map_nil]); first | done | rfl) ?_
    refine (pianolalaw10_beats.calls 2000 _ _ _ _ _ _ s0 _ (Kd.C_below Ce4.out.2 HBD.out) Ce4.out.1 (Kd.C_below Cf3.out.2 HBD.out) Cf3.out.1 HLA.out.2.1).mono ?_
    rintro e w5 ⟨rfl, hd⟩
    have hb := hd.below; clear hd
    refine ⟨_, rfl, ?_⟩
    have HBE := Aside0.mk (HBD.out.trans (hb.mono HBD.out.size))
    have hk2 := And.intro (pw_cell_below hb hHeld.1) (And.intro (pw_cell_below hb hHeld.2.1) (And.intro (pw_cell_below hb hHeld.2.2.1) (And.intro (pw_cell_below hb hHeld.2.2.2.1) (And.intro (pw_cell_below hb hHeld.2.2.2.2.1) (And.intro (pw_cell_below hb hHeld.2.2.2.2.2.1) (And.intro (pw_cell_below hb hHeld.2.2.2.2.2.2.1) (pw_cell_below hb hHeld.2.2.2.2.2.2.2)))))))
    clear hb HBD hHeld
    have HBD := HBE
    clear HBE
    refine hK.out _ _ hk2 (fun hHeld => ?_)
    clear hk2
    clear hK K
    refine norm_ (a' := ?_) ?_ ?_
    rotate_left
    · show Act.put _ (some 163) _ = _
      simp only [Act.put, List.setIfInBounds_toArray, List.set_cons_zero, List.set_cons_succ, i64_w, i32_w]
      rfl
    refine one_ (i := 29) (N := some 168) #[true, true, true, true, true, true, true, true, true, true, true, true, true, true, true, true, true, true, true, true, true, true, true, true, true, true, true, true, true, true, false, false, false, false, false, false, false, false, false, false, false, false, false, false, false, false, false, false, false, false, false, false, false, false, false, false, false, false, false, false, false, false, false] rfl rfl (one_of HT_.out (by kernel_rfl)) (by decide) (fun K hK => ?_)
    refine goes_ Try.func33 (by kernel_rfl) rfl #[.slice (some ⟨Ae3, 0, none⟩) (loF a a.length).length ce3, .slice (some ⟨Af4, 0, none⟩) (hiF b l2 a.length b.length).length cf4] (by rfl) rfl rfl (by (try simp only [List.map_toArray, List.map_cons, List.map_nil]); first | done | rfl) ?_
    refine (pianolalaw10_beats.calls 2000 _ _ _ _ _ _ s1 _ (Kd.C_below Ce3.out.2 HBD.out) Ce3.out.1 (Kd.C_below Cf4.out.2 HBD.out) Cf4.out.1 HLA.out.2.2).mono ?_
    rintro e w6 ⟨rfl, hd⟩
    have hb := hd.below; clear hd
    refine ⟨_, rfl, ?_⟩
    have HBE := Aside0.mk (HBD.out.trans (hb.mono HBD.out.size))
    have hk2 := And.intro (pw_cell_below hb hHeld.1) (And.intro (pw_cell_below hb hHeld.2.1) (And.intro (pw_cell_below hb hHeld.2.2.1) (And.intro (pw_cell_below hb hHeld.2.2.2.1) (And.intro (pw_cell_below hb hHeld.2.2.2.2.1) (And.intro (pw_cell_below hb hHeld.2.2.2.2.2.1) (And.intro (pw_cell_below hb hHeld.2.2.2.2.2.2.1) (pw_cell_below hb hHeld.2.2.2.2.2.2.2)))))))
    clear hb HBD hHeld
    have HBD := HBE
    clear HBE
    refine hK.out _ _ hk2 (fun hHeld => ?_)
    clear hk2
    clear hK K
    refine norm_ (a' := ?_) ?_ ?_
    rotate_left
    · show Act.put _ (some 168) _ = _
      simp only [Act.put, List.setIfInBounds_toArray, List.set_cons_zero, List.set_cons_succ, i64_w, i32_w]
      rfl
    refine take_ (i := 30) (N := some 169) (v := ?_) (a' := ?_) #[true, true, true, true, true, true, true, true, true, true, true, true, true, true, true, true, true, true, true, true, true, true, true, true, true, true, true, true, true, true, true, false, false, false, false, false, false, false, false, false, false, false, false, false, false, false, false, false, false, false, false, false, false, false, false, false, false, false, false, false, false, false, false] rfl rfl (take_ofW HT_.out HW_.out (by kernel_rfl)) (fun _ _ _ h => h) (Or.inl ⟨by rfl, ?_⟩) hHeld ?_ ?_
    rotate_left
    · rintro w' ⟨x0, x1, x2, x3, x4, x5, x6, x7⟩
      go_simp
      with_reducible rfl
    rotate_left
    · simp only [Act.put, List.setIfInBounds_toArray, List.set_cons_zero, List.set_cons_succ, i64_w, i32_w]
      rfl
    refine take_ (i := 31) (N := some 170) (v := ?_) (a' := ?_) #[true, true, true, true, true, true, true, true, true, true, true, true, true, true, true, true, true, true, true, true, true, true, true, true, true, true, true, true, true, true, true, true, false, false, false, false, false, false, false, false, false, false, false, false, false, false, false, false, false, false, false, false, false, false, false, false, false, false, false, false, false, false, false] rfl rfl (take_ofW HT_.out HW_.out (by kernel_rfl)) (fun _ _ _ h => h) (Or.inl ⟨by rfl, ?_⟩) hHeld ?_ ?_
    rotate_left
    · rintro w' ⟨x0, x1, x2, x3, x4, x5, x6, x7⟩
      go_simp
      with_reducible rfl
    rotate_left
    · simp only [Act.put, List.setIfInBounds_toArray, List.set_cons_zero, List.set_cons_succ, i64_w, i32_w]
      rfl
    refine take_ (i := 32) (N := some 171) (v := ?_) (a' := ?_) #[true, true, true, true, true, true, true, true, true, true, true, true, true, true, true, true, true, true, true, true, true, true, true, true, true, true, true, true, true, true, true, true, true, false, false, false, false, false, false, false, false, false, false, false, false, false, false, false, false, false, false, false, false, false, false, false, false, false, false, false, false, false, false] rfl rfl (take_ofW HT_.out HW_.out (by kernel_rfl)) (fun _ _ _ h => h) (Or.inl ⟨by rfl, ?_⟩) hHeld ?_ ?_
    rotate_left
    · rintro w' ⟨x0, x1, x2, x3, x4, x5, x6, x7⟩
      go_simp
      with_reducible rfl
    rotate_left
    · simp only [Act.put, List.setIfInBounds_toArray, List.set_cons_zero, List.set_cons_succ, i64_w, i32_w]
      rfl
    refine take_ (i := 33) (N := some 172) (v := ?_) (a' := ?_) #[true, true, true, true, true, true, true, true, true, true, true, true, true, true, true, true, true, true, true, true, true, true, true, true, true, true, true, true, true, true, true, true, true, true, false, false, false, false, false, false, false, false, false, false, false, false, false, false, false, false, false, false, false, false, false, false, false, false, false, false, false, false, false] rfl rfl (take_ofW HT_.out HW_.out (by kernel_rfl)) (fun _ _ _ h => h) (Or.inl ⟨by rfl, ?_⟩) hHeld ?_ ?_
    rotate_left
    · rintro w' ⟨x0, x1, x2, x3, x4, x5, x6, x7⟩
      go_simp
      with_reducible rfl
    rotate_left
    · simp only [Act.put, List.setIfInBounds_toArray, List.set_cons_zero, List.set_cons_succ, i64_w, i32_w]
      rfl
    refine take_ (i := 34) (N := some 173) (v := ?_) (a' := ?_) #[true, true, true, true, true, true, true, true, true, true, true, true, true, true, true, true, true, true, true, true, true, true, true, true, true, true, true, true, true, true, true, true, true, true, true, false, false, false, false, false, false, false, false, false, false, false, false, false, false, false, false, false, false, false, false, false, false, false, false, false, false, false, false] rfl rfl (take_ofW HT_.out HW_.out (by kernel_rfl)) (fun _ _ _ h => h) (Or.inl ⟨by rfl, ?_⟩) hHeld ?_ ?_
    rotate_left
    · rintro w' ⟨x0, x1, x2, x3, x4, x5, x6, x7⟩
      go_simp
      with_reducible rfl
    rotate_left
    · simp only [Act.put, List.setIfInBounds_toArray, List.set_cons_zero, List.set_cons_succ, i64_w, i32_w]
      rfl
    refine take_ (i := 35) (N := some 174) (v := ?_) (a' := ?_) #[true, true, true, true, true, true, true, true, true, true, true, true, true, true, true, true, true, true, true, true, true, true, true, true, true, true, true, true, true, true, true, true, true, true, true, true, false, false, false, false, false, false, false, false, false, false, false, false, false, false, false, false, false, false, false, false, false, false, false, false, false, false, false] rfl rfl (take_ofW HT_.out HW_.out (by kernel_rfl)) (fun _ _ _ h => h) (Or.inl ⟨by rfl, ?_⟩) hHeld ?_ ?_
    rotate_left
    · rintro w' ⟨x0, x1, x2, x3, x4, x5, x6, x7⟩
      go_simp
      with_reducible rfl
    rotate_left
    · simp only [Act.put, List.setIfInBounds_toArray, List.set_cons_zero, List.set_cons_succ, i64_w, i32_w]
      rfl
    refine take_ (i := 36) (N := some 175) (v := ?_) (a' := ?_) #[true, true, true, true, true, true, true, true, true, true, true, true, true, true, true, true, true, true, true, true, true, true, true, true, true, true, true, true, true, true, true, true, true, true, true, true, true, false, false, false, false, false, false, false, false, false, false, false, false, false, false, false, false, false, false, false, false, false, false, false, false, false, false] rfl rfl (take_ofW HT_.out HW_.out (by kernel_rfl)) (fun _ _ _ h => h) (Or.inl ⟨by rfl, ?_⟩) hHeld ?_ ?_
    rotate_left
    · rintro w' ⟨x0, x1, x2, x3, x4, x5, x6, x7⟩
      go_simp
      with_reducible rfl
    rotate_left
    · simp only [Act.put, List.setIfInBounds_toArray, List.set_cons_zero, List.set_cons_succ, i64_w, i32_w]
      rfl
    refine take_ (i := 37) (N := some 176) (v := ?_) (a' := ?_) #[true, true, true, true, true, true, true, true, true, true, true, true, true, true, true, true, true, true, true, true, true, true, true, true, true, true, true, true, true, true, true, true, true, true, true, true, true, true, false, false, false, false, false, false, false, false, false, false, false, false, false, false, false, false, false, false, false, false, false, false, false, false, false] rfl rfl (take_ofW HT_.out HW_.out (by kernel_rfl)) (fun _ _ _ h => h) (Or.inl ⟨by rfl, ?_⟩) hHeld ?_ ?_
    rotate_left
    · rintro w' ⟨x0, x1, x2, x3, x4, x5, x6, x7⟩
      go_simp
      with_reducible rfl
    rotate_left
    · simp only [Act.put, List.setIfInBounds_toArray, List.set_cons_zero, List.set_cons_succ, i64_w, i32_w]
      rfl
    refine take_ (i := 38) (N := some 177) (v := ?_) (a' := ?_) #[true, true, true, true, true, true, true, true, true, true, true, true, true, true, true, true, true, true, true, true, true, true, true, true, true, true, true, true, true, true, true, true, true, true, true, true, true, true, true, false, false, false, false, false, false, false, false, false, false, false, false, false, false, false, false, false, false, false, false, false, false, false, false] rfl rfl (take_ofW HT_.out HW_.out (by kernel_rfl)) (fun _ _ _ h => h) (Or.inl ⟨by rfl, ?_⟩) hHeld ?_ ?_
    rotate_left
    · rintro w' ⟨x0, x1, x2, x3, x4, x5, x6, x7⟩
      go_simp
      with_reducible rfl
    rotate_left
    · simp only [Act.put, List.setIfInBounds_toArray, List.set_cons_zero, List.set_cons_succ, i64_w, i32_w]
      rfl
    refine take_ (i := 39) (N := some 178) (v := ?_) (a' := ?_) #[true, true, true, true, true, true, true, true, true, true, true, true, true, true, true, true, true, true, true, true, true, true, true, true, true, true, true, true, true, true, true, true, true, true, true, true, true, true, true, true, false, false, false, false, false, false, false, false, false, false, false, false, false, false, false, false, false, false, false, false, false, false, false] rfl rfl (take_ofW HT_.out HW_.out (by kernel_rfl)) (fun _ _ _ h => h) (Or.inl ⟨by rfl, ?_⟩) hHeld ?_ ?_
    rotate_left
    · rintro w' ⟨x0, x1, x2, x3, x4, x5, x6, x7⟩
      go_simp
      with_reducible rfl
    rotate_left
    · simp only [Act.put, List.setIfInBounds_toArray, List.set_cons_zero, List.set_cons_succ, i64_w, i32_w]
      rfl
    refine take_ (i := 40) (N := some 179) (v := ?_) (a' := ?_) #[true, true, true, true, true, true, true, true, true, true, true, true, true, true, true, true, true, true, true, true, true, true, true, true, true, true, true, true, true, true, true, true, true, true, true, true, true, true, true, true, true, false, false, false, false, false, false, false, false, false, false, false, false, false, false, false, false, false, false, false, false, false, false] rfl rfl (take_ofW HT_.out HW_.out (by kernel_rfl)) (fun _ _ _ h => h) (Or.inl ⟨by rfl, ?_⟩) hHeld ?_ ?_
    rotate_left
    · rintro w' ⟨x0, x1, x2, x3, x4, x5, x6, x7⟩
      go_simp
      with_reducible rfl
    rotate_left
    · simp only [Act.put, List.setIfInBounds_toArray, List.set_cons_zero, List.set_cons_succ, i64_w, i32_w]
      rfl
    refine take_ (i := 41) (N := some 180) (v := ?_) (a' := ?_) #[true, true, true, true, true, true, true, true, true, true, true, true, true, true, true, true, true, true, true, true, true, true, true, true, true, true, true, true, true, true, true, true, true, true, true, true, true, true, true, true, true, true, false, false, false, false, false, false, false, false, false, false, false, false, false, false, false, false, false, false, false, false, false] rfl rfl (take_ofW HT_.out HW_.out (by kernel_rfl)) (fun _ _ _ h => h) (Or.inl ⟨by rfl, ?_⟩) hHeld ?_ ?_
    rotate_left
    · rintro w' ⟨x0, x1, x2, x3, x4, x5, x6, x7⟩
      go_simp
      with_reducible rfl
    rotate_left
    · simp only [Act.put, List.setIfInBounds_toArray, List.set_cons_zero, List.set_cons_succ, i64_w, i32_w]
      rfl
    refine take_ (i := 42) (N := some 181) (v := ?_) (a' := ?_) #[true, true, true, true, true, true, true, true, true, true, true, true, true, true, true, true, true, true, true, true, true, true, true, true, true, true, true, true, true, true, true, true, true, true, true, true, true, true, true, true, true, true, true, false, false, false, false, false, false, false, false, false, false, false, false, false, false, false, false, false, false, false, false] rfl rfl (take_ofW HT_.out HW_.out (by kernel_rfl)) (fun _ _ _ h => h) (Or.inl ⟨by rfl, ?_⟩) hHeld ?_ ?_
    rotate_left
    · rintro w' ⟨x0, x1, x2, x3, x4, x5, x6, x7⟩
      go_simp
      with_reducible rfl
    rotate_left
    · simp only [Act.put, List.setIfInBounds_toArray, List.set_cons_zero, List.set_cons_succ, i64_w, i32_w]
      rfl
    refine take_ (i := 43) (N := some 182) (v := ?_) (a' := ?_) #[true, true, true, true, true, true, true, true, true, true, true, true, true, true, true, true, true, true, true, true, true, true, true, true, true, true, true, true, true, true, true, true, true, true, true, true, true, true, true, true, true, true, true, true, false, false, false, false, false, false, false, false, false, false, false, false, false, false, false, false, false, false, false] rfl rfl (take_ofW HT_.out HW_.out (by kernel_rfl)) (fun _ _ _ h => h) (Or.inl ⟨by rfl, ?_⟩) hHeld ?_ ?_
    rotate_left
    · rintro w' ⟨x0, x1, x2, x3, x4, x5, x6, x7⟩
      go_simp
      with_reducible rfl
    rotate_left
    · simp only [Act.put, List.setIfInBounds_toArray, List.set_cons_zero, List.set_cons_succ, i64_w, i32_w]
      rfl
    refine take_ (i := 44) (N := some 183) (v := ?_) (a' := ?_) #[true, true, true, true, true, true, true, true, true, true, true, true, true, true, true, true, true, true, true, true, true, true, true, true, true, true, true, true, true, true, true, true, true, true, true, true, true, true, true, true, true, true, true, true, true, false, false, false, false, false, false, false, false, false, false, false, false, false, false, false, false, false, false] rfl rfl (take_ofW HT_.out HW_.out (by kernel_rfl)) (fun _ _ _ h => h) (Or.inl ⟨by rfl, ?_⟩) hHeld ?_ ?_
    rotate_left
    · rintro w' ⟨x0, x1, x2, x3, x4, x5, x6, x7⟩
      go_simp
      with_reducible rfl
    rotate_left
    · simp only [Act.put, List.setIfInBounds_toArray, List.set_cons_zero, List.set_cons_succ, i64_w, i32_w]
      rfl
    refine take_ (i := 45) (N := some 184) (v := ?_) (a' := ?_) #[true, true, true, true, true, true, true, true, true, true, true, true, true, true, true, true, true, true, true, true, true, true, true, true, true, true, true, true, true, true, true, true, true, true, true, true, true, true, true, true, true, true, true, true, true, true, false, false, false, false, false, false, false, false, false, false, false, false, false, false, false, false, false] rfl rfl (take_ofW HT_.out HW_.out (by kernel_rfl)) (fun _ _ _ h => h) (Or.inl ⟨by rfl, ?_⟩) hHeld ?_ ?_
    rotate_left
    · rintro w' ⟨x0, x1, x2, x3, x4, x5, x6, x7⟩
      go_simp
      with_reducible rfl
    rotate_left
    · simp only [Act.put, List.setIfInBounds_toArray, List.set_cons_zero, List.set_cons_succ, i64_w, i32_w]
      rfl
    refine take_ (i := 46) (N := some 185) (v := ?_) (a' := ?_) #[true, true, true, true, true, true, true, true, true, true, true, true, true, true, true, true, true, true, true, true, true, true, true, true, true, true, true, true, true, true, true, true, true, true, true, true, true, true, true, true, true, true, true, true, true, true, true, false, false, false, false, false, false, false, false, false, false, false, false, false, false, false, false] rfl rfl (take_ofW HT_.out HW_.out (by kernel_rfl)) (fun _ _ _ h => h) (Or.inl ⟨by rfl, ?_⟩) hHeld ?_ ?_
    rotate_left
    · rintro w' ⟨x0, x1, x2, x3, x4, x5, x6, x7⟩
      go_simp
      with_reducible rfl
    rotate_left
    · simp only [Act.put, List.setIfInBounds_toArray, List.set_cons_zero, List.set_cons_succ, i64_w, i32_w]
      rfl
    refine take_ (i := 47) (N := some 186) (v := ?_) (a' := ?_) #[true, true, true, true, true, true, true, true, true, true, true, true, true, true, true, true, true, true, true, true, true, true, true, true, true, true, true, true, true, true, true, true, true, true, true, true, true, true, true, true, true, true, true, true, true, true, true, true, false, false, false, false, false, false, false, false, false, false, false, false, false, false, false] rfl rfl (take_ofW HT_.out HW_.out (by kernel_rfl)) (fun _ _ _ h => h) (Or.inl ⟨by rfl, ?_⟩) hHeld ?_ ?_
    rotate_left
    · rintro w' ⟨x0, x1, x2, x3, x4, x5, x6, x7⟩
      go_simp
      with_reducible rfl
    rotate_left
    · simp only [Act.put, List.setIfInBounds_toArray, List.set_cons_zero, List.set_cons_succ, i64_w, i32_w]
      rfl
    refine take_ (i := 48) (N := some 187) (v := ?_) (a' := ?_) #[true, true, true, true, true, true, true, true, true, true, true, true, true, true, true, true, true, true, true, true, true, true, true, true, true, true, true, true, true, true, true, true, true, true, true, true, true, true, true, true, true, true, true, true, true, true, true, true, true, false, false, false, false, false, false, false, false, false, false, false, false, false, false] rfl rfl (take_ofW HT_.out HW_.out (by kernel_rfl)) (fun _ _ _ h => h) (Or.inl ⟨by rfl, ?_⟩) hHeld ?_ ?_
    rotate_left
    · rintro w' ⟨x0, x1, x2, x3, x4, x5, x6, x7⟩
      go_simp
      with_reducible rfl
    rotate_left
    · simp only [Act.put, List.setIfInBounds_toArray, List.set_cons_zero, List.set_cons_succ, i64_w, i32_w]
      rfl
    refine take_ (i := 49) (N := some 188) (v := ?_) (a' := ?_) #[true, true, true, true, true, true, true, true, true, true, true, true, true, true, true, true, true, true, true, true, true, true, true, true, true, true, true, true, true, true, true, true, true, true, true, true, true, true, true, true, true, true, true, true, true, true, true, true, true, true, false, false, false, false, false, false, false, false, false, false, false, false, false] rfl rfl (take_ofW HT_.out HW_.out (by kernel_rfl)) (fun _ _ _ h => h) (Or.inl ⟨by rfl, ?_⟩) hHeld ?_ ?_
    rotate_left
    · rintro w' ⟨x0, x1, x2, x3, x4, x5, x6, x7⟩
      go_simp
      with_reducible rfl
    rotate_left
    · simp only [Act.put, List.setIfInBounds_toArray, List.set_cons_zero, List.set_cons_succ, i64_w, i32_w]
      rfl
    refine take_ (i := 50) (N := some 189) (v := ?_) (a' := ?_) #[true, true, true, true, true, true, true, true, true, true, true, true, true, true, true, true, true, true, true, true, true, true, true, true, true, true, true, true, true, true, true, true, true, true, true, true, true, true, true, true, true, true, true, true, true, true, true, true, true, true, true, false, false, false, false, false, false, false, false, false, false, false, false] rfl rfl (take_ofW HT_.out HW_.out (by kernel_rfl)) (fun _ _ _ h => h) (Or.inl ⟨by rfl, ?_⟩) hHeld ?_ ?_
    rotate_left
    · rintro w' ⟨x0, x1, x2, x3, x4, x5, x6, x7⟩
      go_simp
      with_reducible rfl
    rotate_left
    · simp only [Act.put, List.setIfInBounds_toArray, List.set_cons_zero, List.set_cons_succ, i64_w, i32_w]
      rfl
    refine take_ (i := 51) (N := some 190) (v := ?_) (a' := ?_) #[true, true, true, true, true, true, true, true, true, true, true, true, true, true, true, true, true, true, true, true, true, true, true, true, true, true, true, true, true, true, true, true, true, true, true, true, true, true, true, true, true, true, true, true, true, true, true, true, true, true, true, true, false, false, false, false, false, false, false, false, false, false, false] rfl rfl (take_ofW HT_.out HW_.out (by kernel_rfl)) (fun _ _ _ h => h) (Or.inl ⟨by rfl, ?_⟩) hHeld ?_ ?_
    rotate_left
    · rintro w' ⟨x0, x1, x2, x3, x4, x5, x6, x7⟩
      go_simp
      with_reducible rfl
    rotate_left
    · simp only [Act.put, List.setIfInBounds_toArray, List.set_cons_zero, List.set_cons_succ, i64_w, i32_w]
      rfl
    refine take_ (i := 52) (N := some 191) (v := ?_) (a' := ?_) #[true, true, true, true, true, true, true, true, true, true, true, true, true, true, true, true, true, true, true, true, true, true, true, true, true, true, true, true, true, true, true, true, true, true, true, true, true, true, true, true, true, true, true, true, true, true, true, true, true, true, true, true, true, false, false, false, false, false, false, false, false, false, false] rfl rfl (take_ofW HT_.out HW_.out (by kernel_rfl)) (fun _ _ _ h => h) (Or.inl ⟨by rfl, ?_⟩) hHeld ?_ ?_
    rotate_left
    · rintro w' ⟨x0, x1, x2, x3, x4, x5, x6, x7⟩
      go_simp
      with_reducible rfl
    rotate_left
    · simp only [Act.put, List.setIfInBounds_toArray, List.set_cons_zero, List.set_cons_succ, i64_w, i32_w]
      rfl
    refine take_ (i := 53) (N := some 192) (v := ?_) (a' := ?_) #[true, true, true, true, true, true, true, true, true, true, true, true, true, true, true, true, true, true, true, true, true, true, true, true, true, true, true, true, true, true, true, true, true, true, true, true, true, true, true, true, true, true, true, true, true, true, true, true, true, true, true, true, true, true, false, false, false, false, false, false, false, false, false] rfl rfl (take_ofW HT_.out HW_.out (by kernel_rfl)) (fun _ _ _ h => h) (Or.inl ⟨by rfl, ?_⟩) hHeld ?_ ?_
    rotate_left
    · rintro w' ⟨x0, x1, x2, x3, x4, x5, x6, x7⟩
      go_simp
      with_reducible rfl
    rotate_left
    · simp only [Act.put, List.setIfInBounds_toArray, List.set_cons_zero, List.set_cons_succ, i64_w, i32_w]
      rfl
    refine take_ (i := 54) (N := some 193) (v := ?_) (a' := ?_) #[true, true, true, true, true, true, true, true, true, true, true, true, true, true, true, true, true, true, true, true, true, true, true, true, true, true, true, true, true, true, true, true, true, true, true, true, true, true, true, true, true, true, true, true, true, true, true, true, true, true, true, true, true, true, true, false, false, false, false, false, false, false, false] rfl rfl (take_ofW HT_.out HW_.out (by kernel_rfl)) (fun _ _ _ h => h) (Or.inl ⟨by rfl, ?_⟩) hHeld ?_ ?_
    rotate_left
    · rintro w' ⟨x0, x1, x2, x3, x4, x5, x6, x7⟩
      go_simp
      with_reducible rfl
    rotate_left
    · simp only [Act.put, List.setIfInBounds_toArray, List.set_cons_zero, List.set_cons_succ, i64_w, i32_w]
      rfl
    refine take_ (i := 55) (N := some 194) (v := ?_) (a' := ?_) #[true, true, true, true, true, true, true, true, true, true, true, true, true, true, true, true, true, true, true, true, true, true, true, true, true, true, true, true, true, true, true, true, true, true, true, true, true, true, true, true, true, true, true, true, true, true, true, true, true, true, true, true, true, true, true, true, false, false, false, false, false, false, false] rfl rfl (take_ofW HT_.out HW_.out (by kernel_rfl)) (fun _ _ _ h => h) (Or.inl ⟨by rfl, ?_⟩) hHeld ?_ ?_
    rotate_left
    · rintro w' ⟨x0, x1, x2, x3, x4, x5, x6, x7⟩
      go_simp
      with_reducible rfl
    rotate_left
    · simp only [Act.put, List.setIfInBounds_toArray, List.set_cons_zero, List.set_cons_succ, i64_w, i32_w]
      rfl
    refine take_ (i := 56) (N := some 195) (v := ?_) (a' := ?_) #[true, true, true, true, true, true, true, true, true, true, true, true, true, true, true, true, true, true, true, true, true, true, true, true, true, true, true, true, true, true, true, true, true, true, true, true, true, true, true, true, true, true, true, true, true, true, true, true, true, true, true, true, true, true, true, true, true, false, false, false, false, false, false] rfl rfl (take_ofW HT_.out HW_.out (by kernel_rfl)) (fun _ _ _ h => h) (Or.inl ⟨by rfl, ?_⟩) hHeld ?_ ?_
    rotate_left
    · rintro w' ⟨x0, x1, x2, x3, x4, x5, x6, x7⟩
      go_simp
      with_reducible rfl
    rotate_left
    · simp only [Act.put, List.setIfInBounds_toArray, List.set_cons_zero, List.set_cons_succ, i64_w, i32_w]
      rfl
    refine take_ (i := 57) (N := some 196) (v := ?_) (a' := ?_) #[true, true, true, true, true, true, true, true, true, true, true, true, true, true, true, true, true, true, true, true, true, true, true, true, true, true, true, true, true, true, true, true, true, true, true, true, true, true, true, true, true, true, true, true, true, true, true, true, true, true, true, true, true, true, true, true, true, true, false, false, false, false, false] rfl rfl (take_ofW HT_.out HW_.out (by kernel_rfl)) (fun _ _ _ h => h) (Or.inl ⟨by rfl, ?_⟩) hHeld ?_ ?_
    rotate_left
    · rintro w' ⟨x0, x1, x2, x3, x4, x5, x6, x7⟩
      go_simp
      with_reducible rfl
    rotate_left
    · simp only [Act.put, List.setIfInBounds_toArray, List.set_cons_zero, List.set_cons_succ, i64_w, i32_w]
      rfl
    refine take_ (i := 58) (N := some 197) (v := ?_) (a' := ?_) #[true, true, true, true, true, true, true, true, true, true, true, true, true, true, true, true, true, true, true, true, true, true, true, true, true, true, true, true, true, true, true, true, true, true, true, true, true, true, true, true, true, true, true, true, true, true, true, true, true, true, true, true, true, true, true, true, true, true, true, false, false, false, false] rfl rfl (take_ofW HT_.out HW_.out (by kernel_rfl)) (fun _ _ _ h => h) (Or.inl ⟨by rfl, ?_⟩) hHeld ?_ ?_
    rotate_left
    · rintro w' ⟨x0, x1, x2, x3, x4, x5, x6, x7⟩
      go_simp
      with_reducible rfl
    rotate_left
    · simp only [Act.put, List.setIfInBounds_toArray, List.set_cons_zero, List.set_cons_succ, i64_w, i32_w]
      rfl
    refine take_ (i := 59) (N := some 198) (v := ?_) (a' := ?_) #[true, true, true, true, true, true, true, true, true, true, true, true, true, true, true, true, true, true, true, true, true, true, true, true, true, true, true, true, true, true, true, true, true, true, true, true, true, true, true, true, true, true, true, true, true, true, true, true, true, true, true, true, true, true, true, true, true, true, true, true, false, false, false] rfl rfl (take_ofW HT_.out HW_.out (by kernel_rfl)) (fun _ _ _ h => h) (Or.inl ⟨by rfl, ?_⟩) hHeld ?_ ?_
    rotate_left
    · rintro w' ⟨x0, x1, x2, x3, x4, x5, x6, x7⟩
      go_simp
      with_reducible rfl
    rotate_left
    · simp only [Act.put, List.setIfInBounds_toArray, List.set_cons_zero, List.set_cons_succ, i64_w, i32_w]
      rfl
    refine one_ (i := 60) (N := some 199) #[true, true, true, true, true, true, true, true, true, true, true, true, true, true, true, true, true, true, true, true, true, true, true, true, true, true, true, true, true, true, true, true, true, true, true, true, true, true, true, true, true, true, true, true, true, true, true, true, true, true, true, true, true, true, true, true, true, true, true, true, true, false, false] rfl rfl (one_of HT_.out (by kernel_rfl)) (by decide) (fun K hK => ?_)
    refine goes_ Try.func14 (by kernel_rfl) rfl #[] (by rfl) rfl rfl (by (try simp only [List.map_toArray, List.map_cons, List.map_nil]); first | done | rfl) ?_
    refine (works_calls _).mono ?_
    rintro e w7 ⟨rfl, hb⟩
    refine ⟨_, rfl, ?_⟩
    have HBE := Aside0.mk (HBD.out.trans (hb.mono HBD.out.size))
    have hk2 := And.intro (pw_cell_below hb hHeld.1) (And.intro (pw_cell_below hb hHeld.2.1) (And.intro (pw_cell_below hb hHeld.2.2.1) (And.intro (pw_cell_below hb hHeld.2.2.2.1) (And.intro (pw_cell_below hb hHeld.2.2.2.2.1) (And.intro (pw_cell_below hb hHeld.2.2.2.2.2.1) (And.intro (pw_cell_below hb hHeld.2.2.2.2.2.2.1) (pw_cell_below hb hHeld.2.2.2.2.2.2.2)))))))
    clear hb HBD hHeld
    have HBD := HBE
    clear HBE
    refine hK.out _ _ hk2 (fun hHeld => ?_)
    clear hk2
    clear hK K
    refine norm_ (a' := ?_) ?_ ?_
    rotate_left
    · show Act.put _ (some 199) _ = _
      simp only [Act.put, List.setIfInBounds_toArray, List.set_cons_zero, List.set_cons_succ, i64_w, i32_w]
      rfl
    refine take_ (i := 61) (N := some 200) (v := ?_) (a' := ?_) #[true, true, true, true, true, true, true, true, true, true, true, true, true, true, true, true, true, true, true, true, true, true, true, true, true, true, true, true, true, true, true, true, true, true, true, true, true, true, true, true, true, true, true, true, true, true, true, true, true, true, true, true, true, true, true, true, true, true, true, true, true, true, false] rfl rfl (take_ofW HT_.out HW_.out (by kernel_rfl)) (fun _ _ _ h => h) (Or.inl ⟨by rfl, ?_⟩) hHeld ?_ ?_
    rotate_left
    · rintro w' ⟨x0, x1, x2, x3, x4, x5, x6, x7⟩
      go_simp
      with_reducible rfl
    rotate_left
    · simp only [Act.put, List.setIfInBounds_toArray, List.set_cons_zero, List.set_cons_succ, i64_w, i32_w]
      rfl
    refine take_ (i := 62) (N := some 6) (v := ?_) (a' := ?_) #[true, true, true, true, true, true, true, true, true, true, true, true, true, true, true, true, true, true, true, true, true, true, true, true, true, true, true, true, true, true, true, true, true, true, true, true, true, true, true, true, true, true, true, true, true, true, true, true, true, true, true, true, true, true, true, true, true, true, true, true, true, true, true] rfl rfl (take_ofW HT_.out HW_.out (by kernel_rfl)) (fun _ _ _ h => h) (Or.inl ⟨by rfl, ?_⟩) hHeld ?_ ?_
    rotate_left
    · rintro w' ⟨x0, x1, x2, x3, x4, x5, x6, x7⟩
      go_simp
      with_reducible rfl
    rotate_left
    · simp only [Act.put, List.setIfInBounds_toArray, List.set_cons_zero, List.set_cons_succ, i64_w, i32_w]
      rfl
    refine done_ (done_of HT_.out (by kernel_rfl)) ?_
    clear HT_ HW_ hHeld
    go_wp2
    go_ret
    exact ⟨rfl, HB1.out.trans ((HBO.out.1.trans (HBD.out.mono HBO.out.1.size)).mono HB1.out.size)⟩
  | k + 3, HK, HCN, HOA, HOB => exact absurd HK.out (by omega)


end Go.Proofs.Ythddeillkdediaa.H
