/- Texts TA, U7, U6, U9 of this chapter, one behind the other. -/
import Derived.Carry
import Derived.ChangeSlices
import Derived.Laws.IdiomArrays
import Derived.Lib.SmallJoins
import Derived.LoopIn
import Derived.LoopNIn
import Derived.OpenShut
import Derived.OwnWalkIn
import Derived.TacticsInMore
import Derived.WideShapes
import Derived.Test.YthddeillkdediaaXG
import Derived.Test.YthddeillkdediaaXH
import Derived.Test.YthddeillkdediaaXI
import Derived.Test.YthddeillkdediaaXJ

/- Arguments of chapter 10's laws, opened. -/
namespace Go.Proofs.Ythddeillkdediaa.H
open Go.RowKit Go.Proofs.YthddeillkdediaaW.PrintWords Go.Proofs.YthddeillkdediaaW.PrintLast Go.Proofs.YthddeillkdediaaW.PrintMore
open Go.Shelf Go.Proofs.Ythddeillkdediaa.QA
open Go.ChangeShapes Go.WideShapes Go.Joins
set_option linter.unusedVariables false
set_option linter.unusedSimpArgs false


def isByte (a : Int) : Prop := 0 ≤ a ∧ a ≤ 255
theorem wf_byte {a : Int} (h : (Lit.int .u8 a).wf = true) : isByte a := by
 simp [Lit.wf, IntKind.min, IntKind.max, IntKind.signed, IntKind.bits] at h
 unfold isByte
 omega
set_option maxRecDepth 100000 in
theorem trod_nums {H : Type} {enc : TypeId × Value → H} {W : World} {base : Nat} {held : Bool} {fuel : Nat} {v : Value} {x : DataW H × List MemPlace} {t e : TypeId} {k : IntKind}
    (ut : Try.prog.underlying t = some (.slice e)) (ue : Try.prog.underlying e = some (.int k)) (ce : Try.prog.cellsOf e = 1) (hf : DataW.trod enc Try.prog W base (fun _ => true) held fuel t [v] = some x) :
    ∃ (A : Option Addr) (c : Nat) (l : List Int), v = .slice A l.length c ∧ l.length ≤ c ∧ Kd.C (Kd.int k) W A l.length l ∧ ∀ n ∈ l, (Lit.int k n).wf = true := by
  have key : ∃ (A : Option Addr) (len cap : Nat) (zs : List Int), v = .slice A len cap ∧ ((A = none ∧ len = 0 ∧ cap = 0 ∧ zs = []) ∨ ∃ x, A = some x ∧ len ≤ cap ∧ cap ≤ maxLen ∧ zs.length = cap ∧ (∀ i, i < zs.length → W.cell? (x.add i) = some (.int k (zs.getD i 0))) ∧ ∀ n ∈ zs, (Lit.int k n).wf = true) := by
    rcases open_ints ut ue ce hf with ⟨hcs, _⟩ | ⟨x, l, c, zs, hcs, _, hl, hm, hz, _, hcell, hwz⟩
    · simp at hcs
      subst hcs
      exact ⟨none, 0, 0, [], rfl, .inl ⟨rfl, rfl, rfl, rfl⟩⟩
    · simp at hcs
      subst hcs
      exact ⟨_, _, _, zs, rfl, .inr ⟨_, rfl, hl, hm, by simpa using hz, hcell, hwz⟩⟩
  obtain ⟨A, len, cap, zs, rfl, w⟩ := key
  obtain ⟨l, rfl, hr, hm, hw, hc⟩ := ReadsInt.ofRowC w
  exact ⟨A, cap, l, rfl, hc, Kd.C_of_reads (d := (0 : Int)) (h1 := fun _ => rfl) hr, hw⟩
theorem und49 : Try.prog.underlying 49 = some (.slice 5) := by kernel_rfl
theorem und5 : Try.prog.underlying 5 = some (.int .u8) := by kernel_rfl
theorem array3_ {α : Type} {cs : Array α} (h : cs.size = 3) : ∃ c0 c1 c2, cs = #[c0, c1, c2] := by
 obtain ⟨l⟩ := cs
 match l, h with
 | [c0, c1, c2], _ => exact ⟨c0, c1, c2, rfl⟩
set_option maxRecDepth 100000 in
theorem open_touch {H : Type} {enc : TypeId × Value → H} {W : World} {r : Reach} {b0 : Nat} {v : Value} {d : DataW H} {p : List MemPlace}
  (hv : Value.okWide Try.prog W r b0 51 v) (h : DataW.Trod enc Try.prog W 0 (fun _ => true) true 51 v d p) :
  ∃ A c l B e m x, v = .agg #[.slice A l.length c, .slice B m.length e, .int .u8 x] ∧ (l.length ≤ c ∧ m.length ≤ e) ∧ Kd.C (Kd.int .u8) W A l.length l ∧ Kd.C (Kd.int .u8) W B m.length m ∧ (∀ n ∈ l, isByte n) ∧ (∀ n ∈ m, isByte n) ∧ isByte x := by
 have e51 : Try.prog.cellsOf 51 = 3 := by kernel_rfl
 have e49 : Try.prog.cellsOf 49 = 1 := by kernel_rfl
 have e5 : Try.prog.cellsOf 5 = 1 := by kernel_rfl
 obtain ⟨cs, rfl, hsz⟩ := okWide_struct Try.underlying51 hv
 obtain ⟨c0, c1, c2, rfl⟩ := array3_ (hsz.trans e51)
 obtain ⟨fuel, hf⟩ := h
 obtain ⟨xs, m, _, _, _, hl, hi⟩ := DataW.trod_struct Try.underlying51 hf
 match xs, hl with
 | [y0, y1, y2], _ =>
  have t0 := hi 0 _ rfl
  have t1 := hi 1 _ rfl
  have t2 := hi 2 _ rfl
  replace t0 : DataW.trod enc Try.prog W 0 (fun _ => true) true m 49 [c0] = some y0 := by simpa [Value.cells, e49, e5] using t0
  replace t1 : DataW.trod enc Try.prog W 0 (fun _ => true) true m 49 [c1] = some y1 := by simpa [Value.cells, e49, e5] using t1
  replace t2 : DataW.trod enc Try.prog W 0 (fun _ => true) true m 5 [c2] = some y2 := by simpa [Value.cells, e49, e5] using t2
  obtain ⟨A, c, l, rfl, h1, h2, h3⟩ := trod_nums und49 und5 e5 t0
  obtain ⟨B, e, n, rfl, k1, k2, k3⟩ := trod_nums und49 und5 e5 t1
  obtain ⟨x, r2, _, v2⟩ := DataW.trod_int und5 t2
  simp only [List.cons.injEq, and_true] at r2
  subst r2
  exact ⟨A, c, l, B, e, n, x, rfl, ⟨h1, k1⟩, h2, k2, fun n hn => wf_byte (h3 n hn), fun n hn => wf_byte (k3 n hn), wf_byte v2⟩
end Go.Proofs.Ythddeillkdediaa.H

/- pianolalaw10.HandSwaps. -/
namespace Go.Proofs.Ythddeillkdediaa.H
open Go.RowKit Go.Proofs.YthddeillkdediaaW.PrintWords Go.Proofs.YthddeillkdediaaW.PrintLast Go.Proofs.YthddeillkdediaaW.PrintMore
open Go.Shelf Go.Proofs.Ythddeillkdediaa.QA
set_option linter.unusedVariables false
set_option linter.unusedSimpArgs false


theorem paired_n (A : Option Addr) (c n : Nat) (a : List Int) (B : Option Addr) (d m : Nat) (b : List Int) (r1 r2 r3 r4 : Int) (w : World) (hn : n = a.length) (hm : m = b.length) (hr : Kd.C (Kd.int .i64) w A a.length a) (hc : a.length ≤ c) (hr2 : Kd.C (Kd.int .i64) w B b.length b) (hc2 : b.length ≤ d) (h : hand_Paired.f a b = some (r1, r2, r3, r4)) :
  Calls Try.prog 26 #[.slice A n c, .slice B m d] w fun e w' => e = .returned (.tuple #[.int .i64 r1, .agg #[.int .i64 r2, .int .i64 r3], .int .i64 r4]) ∧ Below w.heap.size w w' := by
  subst hn hm
  exact hand_Paired.calls A c a B d b r1 r2 r3 r4 w hr hc hr2 hc2 h
theorem C_take {w : World} {A : Option Addr} {xs : List Int} (h : Kd.C (Kd.int .i64) w A xs.length xs) (m : Nat) : Kd.C (Kd.int .i64) w A (xs.take m).length (xs.take m) := by
 obtain ⟨h1, h2, h3⟩ := h
 have hl : (xs.take m).length = min m xs.length := List.length_take
 refine ⟨rfl, by omega, fun hp => ?_⟩
 obtain ⟨ad, e, hc⟩ := h3 (by omega)
 refine ⟨ad, e, fun j p hj => ?_⟩
 have hjl : j < (xs.take m).length := (List.getElem?_eq_some_iff.1 hj).1
 rw [List.getElem?_take_of_lt (by omega)] at hj
 exact hc j p hj
theorem min2_mn (k k' : IntKind) (x y : Int) : Builtin.min2 (.int k x) (.int k' y) = pure (.int k (mn x y)) := min2_int k k' x y
structure BK2 (g1 g2 : Nat) (v0 v1 p1 p2 : Int) (w : World) : Prop where
  k1 : w.heap[g1]? = some (.cells #[.int .i64 v0, .int .i64 v1] 34 (0, 0))
  k2 : w.heap[g2]? = some (.cells #[.int .i64 p1, .int .i64 p2] 34 (0, 0))
theorem BK2.below {g1 g2 : Nat} {v0 v1 p1 p2 : Int} {w w' : World} (h : BK2 g1 g2 v0 v1 p1 p2 w) (hb : Below w.heap.size w w') : BK2 g1 g2 v0 v1 p1 p2 w' := ⟨blk_below2 hb h.k1, blk_below2 hb h.k2⟩
attribute [local go_sem] min2_mn min_two
end Go.Proofs.Ythddeillkdediaa.H

/- pianolalaw10.HandFarthest. -/
namespace Go.Proofs.Ythddeillkdediaa.H
open Go.RowKit Go.Proofs.YthddeillkdediaaW.PrintWords Go.Proofs.YthddeillkdediaaW.PrintLast Go.Proofs.YthddeillkdediaaW.PrintMore
open Go.Shelf Go.Proofs.Ythddeillkdediaa.QA
set_option linter.unusedVariables false
set_option linter.unusedSimpArgs false


theorem tails_n (A : Option Addr) (c n : Nat) (a : List Int) (B : Option Addr) (d m : Nat) (b : List Int) (r1 r2 r3 r4 : Int) (w : World) (hn : n = a.length) (hm : m = b.length) (hr : Kd.C (Kd.int .i64) w A a.length a) (hc : a.length ≤ c) (hr2 : Kd.C (Kd.int .i64) w B b.length b) (hc2 : b.length ≤ d) (h : hand_Tails.f a b = some (r1, r2, r3, r4)) :
  Calls Try.prog 22 #[.slice A n c, .slice B m d] w fun e w' => e = .returned (.tuple #[.int .i64 r1, .int .i64 r2, .int .i64 r3, .int .i64 r4]) ∧ Below w.heap.size w w' := by
  subst hn hm
  exact hand_Tails.calls A c a B d b r1 r2 r3 r4 w hr hc hr2 hc2 h
theorem chance_n (A : Option Addr) (c n : Nat) (a : List Int) (B : Option Addr) (d m : Nat) (b : List Int) (r1 r2 r3 : Int) (w : World) (hn : n = a.length) (hm : m = b.length) (hr : Kd.C (Kd.int .i64) w A a.length a) (hc : a.length ≤ c) (hr2 : Kd.C (Kd.int .i64) w B b.length b) (hc2 : b.length ≤ d) (h : hand_Chance.f a b = some (r1, r2, r3)) :
  Calls Try.prog 24 #[.slice A n c, .slice B m d] w fun e w' => e = .returned (.tuple #[.agg #[.int .i64 r1, .int .i64 r2], .int .i64 r3]) ∧ Below w.heap.size w w' := by
  subst hn hm
  exact hand_Chance.calls A c a B d b r1 r2 r3 w hr hc hr2 hc2 h
theorem chk_of {l : List Int} (h1 : 1 ≤ l.length) (h2 : l.length ≤ 16) (h : ∀ x ∈ l, -100000 ≤ x ∧ x ≤ 100000) : chk l = 0 := by
 unfold H.chk
 rw [if_neg (by omega), if_neg (by omega), if_neg]
 rw [List.any_eq_true]
 rintro ⟨x, hx, hg⟩
 have := h x hx
 unfold goodB isIn at hg
 simp at hg
 omega
end Go.Proofs.Ythddeillkdediaa.H

/- pianolalaw10.HandExchanged. -/
namespace Go.Proofs.Ythddeillkdediaa.H
open Go.RowKit Go.Proofs.YthddeillkdediaaW.PrintWords Go.Proofs.YthddeillkdediaaW.PrintLast Go.Proofs.YthddeillkdediaaW.PrintMore
open Go.Shelf Go.Proofs.Ythddeillkdediaa.QA
set_option linter.unusedVariables false
set_option linter.unusedSimpArgs false

def tr33_T : Bool × List (List Nat × List Nat) := (true, [([], []), ([], []), ([], []), ([], []), ([3], [3]), ([2, 4], [2, 4]), ([], []), ([5, 6], [5, 6]), ([1, 7], [1, 7]), ([8], [8]), ([9], [9]), ([10], [10]), ([11], [11]), ([0, 12], [0, 12]), ([], []), ([], []), ([], []), ([], []), ([17], [17]), ([16, 18], [16, 18]), ([], []), ([19, 20], [19, 20]), ([15, 21], [15, 21]), ([22], [22]), ([23], [23]), ([24], [24]), ([25], [25]), ([14, 26, 13], [14, 26]), ([13, 27, 0, 1, 2, 3, 4, 5, 6, 7, 8, 9, 10, 11, 12, 13], [0, 13]), ([27, 28, 0, 1, 2, 3, 4, 5, 6, 7, 8, 9, 10, 11, 12, 13, 14, 15, 16, 17, 18, 19, 20, 21, 22, 23, 24, 25, 26, 27, 28], [14, 27])])
def tr33_B : List Nat := [0, 0, 0, 0, 8, 28, 0, 124, 254, 510, 1022, 2046, 4094, 8191, 0, 0, 0, 0, 131072, 458752, 0, 2031616, 4161536, 8355840, 16744448, 33521664, 67076096, 134217727, 268435455, 536870911]
theorem tr33_tab : rtab .any (opsOf Try.f10 33) = tr33_T := by kernel_rfl
theorem tr33_bits : waitsOk tr33_T.2 tr33_B = true := by kernel_rfl
def tr34_T : Bool × List (List Nat × List Nat) := (true, [([], []), ([], []), ([0, 1], [0, 1]), ([], []), ([], []), ([3, 4], [3, 4]), ([2, 5], [2, 5]), ([6], [6]), ([7], [7]), ([7], [7]), ([7], [7]), ([], []), ([8, 6, 0, 1, 2, 3, 4, 5, 6, 7, 8, 11], [8]), ([11, 9, 12, 0, 1, 2, 3, 4, 5, 6, 7, 8, 9, 11, 12], [9, 11]), ([10, 13, 0, 1, 2, 3, 4, 5, 6, 7, 8, 9, 10, 11, 12, 13], [10])])
def tr34_B : List Nat := [0, 0, 3, 0, 0, 24, 63, 127, 255, 255, 255, 0, 2559, 7167, 16383]
theorem tr34_tab : rtab .any (opsOf Try.f10 34) = tr34_T := by kernel_rfl
theorem tr34_bits : waitsOk tr34_T.2 tr34_B = true := by kernel_rfl
def tr36_T : Bool × List (List Nat × List Nat) := (true, [([], []), ([], []), ([0, 1], [0, 1]), ([], []), ([], []), ([3, 4], [3, 4]), ([2, 5], [2, 5]), ([6], [6]), ([7], [7]), ([7], [7]), ([7], [7]), ([], []), ([8, 6, 0, 1, 2, 3, 4, 5, 6, 7, 8, 11], [8]), ([11, 9, 12, 0, 1, 2, 3, 4, 5, 6, 7, 8, 9, 11, 12], [9, 11]), ([10, 13, 0, 1, 2, 3, 4, 5, 6, 7, 8, 9, 10, 11, 12, 13], [10])])
def tr36_B : List Nat := [0, 0, 3, 0, 0, 24, 63, 127, 255, 255, 255, 0, 2559, 7167, 16383]
theorem tr36_tab : rtab .any (opsOf Try.f10 36) = tr36_T := by kernel_rfl
theorem tr36_bits : waitsOk tr36_T.2 tr36_B = true := by kernel_rfl

theorem rd_take (l : List Int) (n j : Nat) (h : j < n) : rd (l.take n) (j : Int) = rd l (j : Int) := by
 unfold rd
 rw [Int.toNat_natCast, List.getD_eq_getElem?_getD, List.getD_eq_getElem?_getD, List.getElem?_take_of_lt h]
theorem psum_bd (a b : List Int) (h : a.length ≤ 16) : -16000 ≤ psum a b ∧ psum a b ≤ 16000 := by
 unfold psum
 have hz : (pairsL a b).length ≤ a.length := by unfold pairsL; rw [List.length_zip]; omega
 have hd := (dfI_len (pairsL a b)).2
 have hr := ranks_in (dfI (pairsL a b)) (by omega)
 have := dotI_in 1000 (sgI (pairsL a b)) (ranksI (dfI (pairsL a b))) (sgI_in _) hr.1 (by omega)
 rw [hr.2] at this
 omega
attribute [local go_sem] min2_mn min_two
set_option maxRecDepth 100000 in
set_option maxHeartbeats 16000000 in
theorem handExchanged_calls (A0 : Option Addr) (c0 : Nat) (l0 : List Int) (A1 : Option Addr) (c1 : Nat) (l1 : List Int) (x y z t : Int) (w : World) (hc : l0.length ≤ c0 ∧ l1.length ≤ c1) (hC0 : Kd.C (Kd.int .u8) w A0 l0.length l0) (hC1 : Kd.C (Kd.int .u8) w A1 l1.length l1) (hl : ∀ n ∈ l0, 0 ≤ n ∧ n ≤ 255) (hm : ∀ n ∈ l1, 0 ≤ n ∧ n ≤ 255) (hx : 0 ≤ x ∧ x ≤ 255) (hy : 0 ≤ y ∧ y ≤ 255) (hz : 0 ≤ z ∧ z ≤ 255) (ht : 0 ≤ t ∧ t ≤ 255) :
  Calls Try.prog 10 #[.agg #[.slice A0 l0.length c0, .slice A1 l1.length c1, .int .u8 x], .int .u8 y, .int .u8 z, .int .u8 t] w fun e w' => e = .returned (.bool true) ∧ Below w.heap.size w w' := by
 have hu51 := Try.underlying51
 have hu34 := Try.underlying34
 have hu63 : Try.prog.underlying 63 = some (.array 2 22) := by kernel_rfl
 have hu64 : Try.prog.underlying 64 = some (.slice 63) := by kernel_rfl
 obtain ⟨a, b, hmd, sa, sb⟩ := made_f l0 l1 hl hm x hx 20 (by omega)
 have HB := Aside0.mk (below_alloc (Below.refl w.heap.size w) (.cells #[.slice A0 l0.length c0, .slice A1 l1.length c1, .int .u8 x] 51))
 have K1 := Aside0.mk (blk_new w (.cells #[.slice A0 l0.length c0, .slice A1 l1.length c1, .int .u8 x] 51))
 have H0 := Aside0.mk (Kd.C_below hC0 HB.out)
 have H1 := Aside0.mk (Kd.C_below hC1 HB.out)
 have HA := Aside0.mk hc
 have HM := Aside0.mk hmd
 have HS := Aside0.mk (And.intro sa sb)
 -- what is added and multiplied
 obtain ⟨T, hT⟩ : ∃ T : Int, T = 1 + Int.tmod t 9 := ⟨_, rfl⟩
 have htm : Int.tmod t 9 = ((t.toNat % 9 : Nat) : Int) := by rw [show t = ((t.toNat : Nat) : Int) by omega, show (9 : Int) = ((9 : Nat) : Int) from rfl, tmod_nat]; rfl
 have hTb : 1 ≤ T ∧ T ≤ 9 := by rw [hT, htm]; omega
 have hwT : wrap64 (1 + Int.tmod t 9) = T := by rw [← hT, w64' _ (by omega) (by omega)]
 have hwy : wrap64 y = y := w64' _ (by omega) (by omega)
 have hwz : wrap64 z = z := w64' _ (by omega) (by omega)
 have hwt : wrap64 t = t := w64' _ (by omega) (by omega)
 have HT := Aside0.mk (And.intro hTb (And.intro hwT (And.intro hwy (And.intro hwz hwt))))
 have HY := Aside0.mk (And.intro hy hz)
 clear hT hC0 hC1 hc hmd hl hm hx sa sb htm hTb hwT hwy hwz hwt hy hz ht
 have k0 := (blk_cell K1.out 0).trans rfl
 have k1 := (blk_cell K1.out 1).trans rfl
 have k2 := (blk_cell K1.out 2).trans rfl
 obtain ⟨n, hn⟩ : ∃ n : Nat, n = min a.length b.length := ⟨_, rfl⟩
 have hmn : mn (a.length : Int) (b.length : Int) = (n : Int) := by rw [hn]; unfold mn; split <;> omega
 have HN := Aside0.mk (show (1 ≤ n ∧ n ≤ 5) ∧ n ≤ a.length ∧ n ≤ b.length ∧ n = min a.length b.length by have := HS.out.1.1; have := HS.out.1.2.1; have := HS.out.2.1; have := HS.out.2.2.1; omega)
 clear hn
 go_enter Try.func10, Try.ntmps10
 go_wp2_with fail
 refine (pianolalaw10_Touch_made.calls 20 A0 c0 l0 A1 c1 l1 x a b _ H0.out HA.out.1 H1.out HA.out.2 HM.out).mono ?_
 rintro e w1 ⟨va, vb, rfl, hRa, hRb, hb⟩
 have HB1 := Aside0.mk (HB.out.trans (hb.mono HB.out.size))
 obtain ⟨Aa, ca, rfl, hca, hCa⟩ := Kd.R_reads hRa
 obtain ⟨Ab, cb, rfl, hcb, hCb⟩ := Kd.R_reads hRb
 obtain ⟨ada, rfl⟩ := C_some hCa (by have := HS.out.1.1; omega)
 obtain ⟨adb, rfl⟩ := C_some hCb (by have := HS.out.2.1; omega)
 have HCa := Aside0.mk (And.intro hca hCa)
 have HCb := Aside0.mk (And.intro hcb hCb)
 clear hb hRa hRb hca hCa hcb hCb k0 k1 k2 K1 H0 H1 HM HB
 go_wp2
 clear hmn
 obtain ⟨g12, hg12⟩ : ∃ g, g = w1.heap.size := ⟨_, rfl⟩
 obtain ⟨g13, hg13⟩ : ∃ g, g = w1.heap.size + 1 := ⟨_, rfl⟩
 obtain ⟨g54, hg54⟩ : ∃ g, g = w1.heap.size + 1 + 1 := ⟨_, rfl⟩
 obtain ⟨B, hBB⟩ : ∃ B, B = g54 + 1 := ⟨_, rfl⟩
 obtain ⟨wS, hwS⟩ : ∃ W : World, W = ((w1.alloc (.cells #[.slice none 0 0, .slice none 0 0] 63)).alloc (.cells #[.slice none 0 0, .slice none 0 0] 63)).alloc (.cells #[.slice (some ada) a.length ca, .slice (some adb) b.length cb] 22) := ⟨_, rfl⟩
 have hs1 : (w1.alloc (.cells #[.slice none 0 0, .slice none 0 0] 63)).heap.size = w1.heap.size + 1 := by simp
 have hs2 : ((w1.alloc (.cells #[.slice none 0 0, .slice none 0 0] 63)).alloc (.cells #[.slice none 0 0, .slice none 0 0] 63)).heap.size = w1.heap.size + 1 + 1 := by simp
 have k12 : wS.heap[g12]? = some (.cells #[.slice none 0 0, .slice none 0 0] 63 (0, 0)) := by rw [hwS, hg12]; exact blk_alloc (blk_alloc (blk_new w1 _) _) _
 have k13 : wS.heap[g13]? = some (.cells #[.slice none 0 0, .slice none 0 0] 63 (0, 0)) := by rw [hwS, hg13, ← hs1]; exact blk_alloc (blk_new _ _) _
 have k54 : wS.heap[g54]? = some (.cells #[.slice (some ada) a.length ca, .slice (some adb) b.length cb] 22 (0, 0)) := by rw [hwS, hg54, ← hs2]; exact blk_new _ _
 have hbS : Below w1.heap.size w1 wS := by rw [hwS]; exact below_alloc (below_alloc (below_alloc (Below.refl _ _) _) _) _
 have hlt : g12 < B ∧ g13 < B ∧ g12 ≠ g13 := by omega
 have dn : ∀ k, (Value.slice none 0 0).ownBlock = some k → (Value.slice none 0 0).ownBlock ≠ some k := fun k hk => by cases hk
 have HX0 := Aside0.mk (X4.mk k12 k13 OwnI.nil OwnI.nil OwnI.nil OwnI.nil dn dn dn dn dn dn hlt : X4 wS B g12 g13 (.slice none 0 0) (.slice none 0 0) (.slice none 0 0) (.slice none 0 0) [] [] [] [])
 have K540 := Aside0.mk k54
 have HBS0 := Aside0.mk hbS
 have HG := Aside0.mk (show B = g54 + 1 ∧ ((g54 ≠ g12 ∧ g54 ≠ g13) ∧ g54 < B) ∧ (w1.heap.size ≤ g12 ∧ w1.heap.size ≤ g13) ∧ w1.heap.size ≤ B by omega)
 rw [← hwS, ← hg54, ← hg13, ← hg12]
 obtain ⟨M0, hM0⟩ : ∃ l, l = (rotL a y.toNat).map (fun v => z + T * v) := ⟨_, rfl⟩
 obtain ⟨M1, hM1⟩ : ∃ l, l = (rotL b y.toNat).map (fun v => z + T * v) := ⟨_, rfl⟩
 obtain ⟨N0, hN0⟩ : ∃ l, l = (rotL a y.toNat).map (fun v => -v) := ⟨_, rfl⟩
 obtain ⟨N1, hN1⟩ : ∃ l, l = (rotL b y.toNat).map (fun v => -v) := ⟨_, rfl⟩
 have HMN := Aside0.mk (And.intro hM0 (And.intro hM1 (And.intro hN0 hN1)))
 clear hwS hs1 hs2 k12 k13 k54 hbS hlt dn hg12 hg13 hg54 hBB hM0 hM1 hN0 hN1
 go_loopw [56] (fun s56 wr => ∃ (k : Nat) (m0 m1 n0 n1 : Value), s56 = .int .i64 k ∧ Aside0 (k ≤ 2) ∧ Aside0 (X4 wr B g12 g13 m0 m1 n0 n1 (if 1 ≤ k then M0 else []) (if 2 ≤ k then M1 else []) (if 1 ≤ k then N0 else []) (if 2 ≤ k then N1 else [])) ∧ Aside0 (wr.heap[g54]? = some (.cells #[.slice (some ada) a.length ca, .slice (some adb) b.length cb] 22 (0, 0))) ∧ Aside0 (Below w1.heap.size w1 wr)) (fun s56 _ => 2 - (intOf s56).toNat)
 case atStart => exact ⟨0, _, _, _, _, rfl, ⟨by omega⟩, HX0, K540, HBS0⟩
 case round =>
  clear HX0 K540 HBS0 wS
  obtain ⟨k, m0, m1, n0, n1, rfl, HK, HX, K54, HBr⟩ := hrel
  match k, HK, HX with
  | 0, HK, HX =>
    have hX := HX.out
    rw [if_neg (by omega), if_neg (by omega), if_neg (by omega), if_neg (by omega)] at hX
    clear HX
    have HX := Aside0.mk hX
    clear hX
    have f54 := (blk_cell K54.out 0).trans rfl
    rw [show ((0 : Nat) : Int) = (0 : Int) from rfl]
    go_wp2
    go_loopw [63] (fun s63 wi => ∃ (i : Nat) (m0 m1 n0 n1 : Value), s63 = .int .i64 i ∧ Aside0 (i ≤ a.length) ∧ Aside0 (X4 wi B g12 g13 m0 m1 n0 n1 (M0.take i) [] (N0.take i) []) ∧ Aside0 (wi.heap[g54]? = some (.cells #[.slice (some ada) a.length ca, .slice (some adb) b.length cb] 22 (0, 0))) ∧ Aside0 (Below w1.heap.size w1 wi)) (fun s63 _ => a.length - (intOf s63).toNat)
    case atStart => exact ⟨0, _, _, _, _, rfl, ⟨Nat.zero_le _⟩, HX, K54, HBr⟩
    case round =>
     clear HX K54 HBr
     try clear f54
     obtain ⟨i, m0, m1, n0, n1, rfl, HI, HX, K54, HBi⟩ := hrel
     by_cases hj : i < a.length
     · have n1' : i < a.length := hj
       have hd : decide ((i : Int) < (a.length : Int)) = true := decide_eq_true (by omega)
       clear hj
       have hl5 : a.length ≤ 5 ∧ 1 ≤ a.length := by have := HS.out.1.1; have := HS.out.1.2.1; omega
       obtain ⟨iy, hiy⟩ : ∃ iy : Nat, iy = i + y.toNat := ⟨_, rfl⟩
       obtain ⟨j, hj⟩ : ∃ j : Nat, j = iy % a.length := ⟨_, rfl⟩
       have nj : j < a.length := by rw [hj]; exact Nat.mod_lt _ (by omega)
       have nz : ¬ a.length = 0 := by omega
       have nz2 : ¬ (a.length : Int) = 0 := by omega
       obtain ⟨v, hv⟩ : ∃ v, v = rd a (j : Int) := ⟨_, rfl⟩
       have hvb := HS.out.1.2.2 _ (rd_mem a nj)
       rw [← hv] at hvb
       have hrv : rd (rotL a y.toNat) (i : Int) = v := by rw [rotL_rd a y.toNat n1', ← hiy, ← hj, hv]
       have e1 := HT.out.2.2.1
       have e2 := HT.out.2.2.2.1
       have e3 := HT.out.2.2.2.2
       have e4 := HT.out.2.1
       have e5 : wrap64 ((i : Int) + y) = (iy : Int) := by rw [w64' _ (by have := HY.out; omega) (by have := HY.out; omega)]; have := HY.out; omega
       have e6 : Int.tmod (iy : Int) (a.length : Int) = (j : Int) := by rw [tmod_nat, hj]
       have hTb := HT.out.1
       have hTv : -27 ≤ T * v ∧ T * v ≤ 594 := by
        have h1 : T * (v + 3) = T * v + T * 3 := Int.mul_add _ _ _
        have h2 := mul_in (x := T) (y := v + 3) (p := 9) (q := 66) (by omega) (by omega)
        omega
       have e7 : wrap64 (T * v) = T * v := w64' _ (by omega) (by omega)
       obtain ⟨u, hu⟩ : ∃ u, u = z + T * v := ⟨_, rfl⟩
       have e8 : wrap64 (z + T * v) = u := by rw [hu, w64' _ (by have := HY.out; omega) (by have := HY.out; omega)]
       obtain ⟨g, hg⟩ : ∃ g, g = -v := ⟨_, rfl⟩
       have e9 : wrap64 (-v) = g := by rw [hg, w64' _ (by omega) (by omega)]
       have hcv := rd_cell (Kd.C_below HCa.out.2 HBi.out) j nj
       rw [← hv] at hcv
       have hir : i < (rotL a y.toNat).length := by rw [rotL_len]; exact n1'
       have hM1 : M0.take i ++ [u] = M0.take (i + 1) := by
        rw [HMN.out.1, ← List.map_take, ← List.map_take, take_rd _ hir, List.map_append, hrv, hu]
        rfl
       have hN1 : N0.take i ++ [g] = N0.take (i + 1) := by
        rw [HMN.out.2.2.1, ← List.map_take, ← List.map_take, take_rd _ hir, List.map_append, hrv, hg]
        rfl
       have HMN1 := Aside0.mk (And.intro hM1 hN1)
       have HLI := Aside0.mk (show (M0.take i).length ≤ 100 ∧ (N0.take i).length ≤ 100 by rw [List.length_take, List.length_take]; omega)
       have HNE := Aside0.mk (show (M0.take (i + 1)).length = i + 1 ∧ (N0.take (i + 1)).length = i + 1 from ⟨by rw [← hM1, List.length_append, List.length_take, HMN.out.1, List.length_map, rotL_len]; simp; omega, by rw [← hN1, List.length_append, List.length_take, HMN.out.2.2.1, List.length_map, rotL_len]; simp; omega⟩)
       have HI5 := Aside0.mk (show i ≤ 5 by omega)
       have hBw : B ≤ wr.heap.size := by have := blk_lt2 K54.out; have := HG.out; omega
       have f0 := (blk_cell HX.out.c12 0).trans rfl
       have HBW := Aside0.mk hBw
       clear hl5 hj hiy hvb hrv hTb hTv hu hg hv hir hM1 hN1 hBw
       go_upto_region 11 with fail
       clear nz2
       go_wp2_with (at_builtin; refine Aside0.out ?_)
       refine ⟨?_⟩
       refine wpList_append_OwnI 22 und22 rfl _ _ rfl B m0 (M0.take i) [u] rfl (HX.out.o0.below (below_alloc (Below.refl _ _) _)) ⟨wr.heap.size, 0, none⟩ 1 1 rfl rfl (one_cell wr u 3) (by have := HLI.out; omega) (by have := HBW.out; simp; omega) ?_
       intro v1 w3 hO1 hb1 hg1 ho1
       rw [HMN1.out.1] at hO1
       obtain ⟨gv, capv, hvv, _, _, _⟩ := R2.of_own hO1 (fun e => by have := HNE.out.1; rw [e] at this; simp at this) (by have := HNE.out.1; have := HI5.out; omega)
       rw [HNE.out.1] at hvv
       subst hvv
       have hst := HX.out.step0 (x := u) HBW.out (by rw [HMN1.out.1]; exact hO1) hb1 hg1 ho1
       rw [HMN1.out.1] at hst
       have e12 : w3.heap[g12]? = some (.cells #[m0, m1] 63 (0, 0)) := (hb1.block g12 HX.out.lt.1).trans (blk_below2 (below_alloc (Below.refl _ _) _) HX.out.c12)
       have f1 := (blk_cell e12 0).trans rfl
       have f2 := blk_frozen e12 0
       have HST := Aside0.mk hst
       have hbw3 : Below w1.heap.size w1 w3 := HBi.out.trans (((below_alloc (Below.refl wr.heap.size wr) _).mono HBi.out.size).trans (hb1.mono HG.out.2.2.2))
       have hbs := below_set (g := g12) (j := 0) (v := (.slice (some ⟨gv, 0, none⟩) (i + 1) capv)) hbw3 HG.out.2.2.1.1
       have h54 : (w3.setCell ⟨g12, 0, none⟩ (.slice (some ⟨gv, 0, none⟩) (i + 1) capv)).heap[g54]? = some (.cells #[.slice (some ada) a.length ca, .slice (some adb) b.length cb] 22 (0, 0)) := blk_far ((hb1.block g54 HG.out.2.1.2).trans (blk_below2 (below_alloc (Below.refl _ _) _) K54.out)) HG.out.2.1.1.1 (.slice (some ⟨gv, 0, none⟩) (i + 1) capv)
       have hBw2 : B ≤ (w3.setCell ⟨g12, 0, none⟩ (.slice (some ⟨gv, 0, none⟩) (i + 1) capv)).heap.size := by have := hb1.size; have := HBW.out; simp [World.setCell] at *; omega
       have HBS := Aside0.mk (And.intro hbs (And.intro h54 hBw2))
       have f3 := (blk_cell hst.c13 0).trans rfl
       clear hO1 hb1 hg1 ho1 hst e12 hbw3 hbs h54 hBw2 HX K54 HBi HBW hcv
       go_upto_region 12 with fail
       go_wp2_with (at_builtin; refine Aside0.out ?_)
       refine ⟨?_⟩
       clear f0 f1 f2 f3
       have hsz4 : (w3.setCell ⟨g12, 0, none⟩ (.slice (some ⟨gv, 0, none⟩) (i + 1) capv)).heap.size = w3.heap.size := World.size_setCell _ _ _
       generalize w3.setCell ⟨g12, 0, none⟩ (.slice (some ⟨gv, 0, none⟩) (i + 1) capv) = w4 at HST HBS hsz4 ⊢
       refine wpList_append_OwnI 22 und22 rfl _ _ rfl B n0 (N0.take i) [g] rfl (HST.out.o2.below (below_alloc (Below.refl _ _) _)) ⟨w3.heap.size, 0, none⟩ 1 1 rfl rfl (by have := one_cell w4 g 3; rw [hsz4] at this; exact this) (by have := HLI.out; omega) (by have := HBS.out.2.2; simp; omega) ?_
       intro v2 w5 hO2 hb2 hg2 ho2
       rw [HMN1.out.2] at hO2
       obtain ⟨gv2, capv2, hvv2, _, _, _⟩ := R2.of_own hO2 (fun e => by have := HNE.out.2; rw [e] at this; simp at this) (by have := HNE.out.2; have := HI5.out; omega)
       rw [HNE.out.2] at hvv2
       subst hvv2
       have hst2 := HST.out.step2 (x := g) HBS.out.2.2 (by rw [HMN1.out.2]; exact hO2) hb2 hg2 ho2
       rw [HMN1.out.2] at hst2
       have e13 : w5.heap[g13]? = some (.cells #[n0, n1] 63 (0, 0)) := (hb2.block g13 HST.out.lt.2.1).trans (blk_below2 (below_alloc (Below.refl _ _) _) HST.out.c13)
       have f1 := (blk_cell e13 0).trans rfl
       have f2 := blk_frozen e13 0
       have HST2 := Aside0.mk hst2
       have hbw5 : Below w1.heap.size w1 w5 := HBS.out.1.trans (((below_alloc (Below.refl w4.heap.size w4) _).mono HBS.out.1.size).trans (hb2.mono HG.out.2.2.2))
       have HB6 := Aside0.mk (below_set (g := g13) (j := 0) (v := (.slice (some ⟨gv2, 0, none⟩) (i + 1) capv2)) hbw5 HG.out.2.2.1.2)
       have K6 := Aside0.mk (blk_far (p := ⟨g13, 0, none⟩) ((hb2.block g54 HG.out.2.1.2).trans (blk_below2 (below_alloc (Below.refl _ _) _) HBS.out.2.1)) HG.out.2.1.1.2 (.slice (some ⟨gv2, 0, none⟩) (i + 1) capv2))
       clear hO2 hb2 hg2 ho2 hst2 e13 hbw5 HST HBS
       go_wp2
       clear f1 f2
       generalize w5.setCell ⟨g13, 0, none⟩ (.slice (some ⟨gv2, 0, none⟩) (i + 1) capv2) = w6 at HST2 HB6 K6 ⊢
       refine ⟨⟨i + 1, _, _, _, _, congrArg _ (wrap_up i (by have := HI5.out; omega)), ⟨n1'⟩, HST2, K6, HB6⟩, ?_⟩
       rw [wrap_up i (by have := HI5.out; omega)]; exact meas_up a.length i n1'
     · have hin : i = a.length := by have := HI.out; omega
       have hd : decide ((i : Int) < (a.length : Int)) = false := decide_eq_false (by omega)
       have hX := HX.out
       have t1 : M0.take i = M0 := by rw [hin]; exact List.take_of_length_le (by rw [HMN.out.1, List.length_map, rotL_len]; exact Nat.le_refl _)
       have t2 : N0.take i = N0 := by rw [hin]; exact List.take_of_length_le (by rw [HMN.out.2.2.1, List.length_map, rotL_len]; exact Nat.le_refl _)
       rw [t1, t2] at hX
       have HX2 := Aside0.mk hX
       clear hX t1 t2 HX hin
       go_wp2
       exact ⟨⟨1, m0, m1, n0, n1, rfl, ⟨by omega⟩, ⟨by simpa using HX2.out⟩, K54, HBi⟩, by decide⟩
  | 1, HK, HX =>
    have hX := HX.out
    rw [if_pos (by omega), if_neg (by omega), if_pos (by omega), if_neg (by omega)] at hX
    clear HX
    have HX := Aside0.mk hX
    clear hX
    have f54 := (blk_cell K54.out 1).trans rfl
    rw [show ((1 : Nat) : Int) = (1 : Int) from rfl]
    go_wp2
    go_loopw [63] (fun s63 wi => ∃ (i : Nat) (m0 m1 n0 n1 : Value), s63 = .int .i64 i ∧ Aside0 (i ≤ b.length) ∧ Aside0 (X4 wi B g12 g13 m0 m1 n0 n1 M0 (M1.take i) N0 (N1.take i)) ∧ Aside0 (wi.heap[g54]? = some (.cells #[.slice (some ada) a.length ca, .slice (some adb) b.length cb] 22 (0, 0))) ∧ Aside0 (Below w1.heap.size w1 wi)) (fun s63 _ => b.length - (intOf s63).toNat)
    case atStart => exact ⟨0, _, _, _, _, rfl, ⟨Nat.zero_le _⟩, HX, K54, HBr⟩
    case round =>
     clear HX K54 HBr
     try clear f54
     obtain ⟨i, m0, m1, n0, n1, rfl, HI, HX, K54, HBi⟩ := hrel
     by_cases hj : i < b.length
     · have n1' : i < b.length := hj
       have hd : decide ((i : Int) < (b.length : Int)) = true := decide_eq_true (by omega)
       clear hj
       have hl5 : b.length ≤ 5 ∧ 1 ≤ b.length := by have := HS.out.2.1; have := HS.out.2.2.1; omega
       obtain ⟨iy, hiy⟩ : ∃ iy : Nat, iy = i + y.toNat := ⟨_, rfl⟩
       obtain ⟨j, hj⟩ : ∃ j : Nat, j = iy % b.length := ⟨_, rfl⟩
       have nj : j < b.length := by rw [hj]; exact Nat.mod_lt _ (by omega)
       have nz : ¬ b.length = 0 := by omega
       have nz2 : ¬ (b.length : Int) = 0 := by omega
       obtain ⟨v, hv⟩ : ∃ v, v = rd b (j : Int) := ⟨_, rfl⟩
       have hvb := HS.out.2.2.2 _ (rd_mem b nj)
       rw [← hv] at hvb
       have hrv : rd (rotL b y.toNat) (i : Int) = v := by rw [rotL_rd b y.toNat n1', ← hiy, ← hj, hv]
       have e1 := HT.out.2.2.1
       have e2 := HT.out.2.2.2.1
       have e3 := HT.out.2.2.2.2
       have e4 := HT.out.2.1
       have e5 : wrap64 ((i : Int) + y) = (iy : Int) := by rw [w64' _ (by have := HY.out; omega) (by have := HY.out; omega)]; have := HY.out; omega
       have e6 : Int.tmod (iy : Int) (b.length : Int) = (j : Int) := by rw [tmod_nat, hj]
       have hTb := HT.out.1
       have hTv : -27 ≤ T * v ∧ T * v ≤ 594 := by
        have h1 : T * (v + 3) = T * v + T * 3 := Int.mul_add _ _ _
        have h2 := mul_in (x := T) (y := v + 3) (p := 9) (q := 66) (by omega) (by omega)
        omega
       have e7 : wrap64 (T * v) = T * v := w64' _ (by omega) (by omega)
       obtain ⟨u, hu⟩ : ∃ u, u = z + T * v := ⟨_, rfl⟩
       have e8 : wrap64 (z + T * v) = u := by rw [hu, w64' _ (by have := HY.out; omega) (by have := HY.out; omega)]
       obtain ⟨g, hg⟩ : ∃ g, g = -v := ⟨_, rfl⟩
       have e9 : wrap64 (-v) = g := by rw [hg, w64' _ (by omega) (by omega)]
       have hcv := rd_cell (Kd.C_below HCb.out.2 HBi.out) j nj
       rw [← hv] at hcv
       have hir : i < (rotL b y.toNat).length := by rw [rotL_len]; exact n1'
       have hM1 : M1.take i ++ [u] = M1.take (i + 1) := by
        rw [HMN.out.2.1, ← List.map_take, ← List.map_take, take_rd _ hir, List.map_append, hrv, hu]
        rfl
       have hN1 : N1.take i ++ [g] = N1.take (i + 1) := by
        rw [HMN.out.2.2.2, ← List.map_take, ← List.map_take, take_rd _ hir, List.map_append, hrv, hg]
        rfl
       have HMN1 := Aside0.mk (And.intro hM1 hN1)
       have HLI := Aside0.mk (show (M1.take i).length ≤ 100 ∧ (N1.take i).length ≤ 100 by rw [List.length_take, List.length_take]; omega)
       have HNE := Aside0.mk (show (M1.take (i + 1)).length = i + 1 ∧ (N1.take (i + 1)).length = i + 1 from ⟨by rw [← hM1, List.length_append, List.length_take, HMN.out.2.1, List.length_map, rotL_len]; simp; omega, by rw [← hN1, List.length_append, List.length_take, HMN.out.2.2.2, List.length_map, rotL_len]; simp; omega⟩)
       have HI5 := Aside0.mk (show i ≤ 5 by omega)
       have hBw : B ≤ wr.heap.size := by have := blk_lt2 K54.out; have := HG.out; omega
       have f0 := (blk_cell HX.out.c12 1).trans rfl
       have HBW := Aside0.mk hBw
       clear hl5 hj hiy hvb hrv hTb hTv hu hg hv hir hM1 hN1 hBw
       go_upto_region 11 with fail
       clear nz2
       go_wp2_with (at_builtin; refine Aside0.out ?_)
       refine ⟨?_⟩
       refine wpList_append_OwnI 22 und22 rfl _ _ rfl B m1 (M1.take i) [u] rfl (HX.out.o1.below (below_alloc (Below.refl _ _) _)) ⟨wr.heap.size, 0, none⟩ 1 1 rfl rfl (one_cell wr u 3) (by have := HLI.out; omega) (by have := HBW.out; simp; omega) ?_
       intro v1 w3 hO1 hb1 hg1 ho1
       rw [HMN1.out.1] at hO1
       obtain ⟨gv, capv, hvv, _, _, _⟩ := R2.of_own hO1 (fun e => by have := HNE.out.1; rw [e] at this; simp at this) (by have := HNE.out.1; have := HI5.out; omega)
       rw [HNE.out.1] at hvv
       subst hvv
       have hst := HX.out.step1 (x := u) HBW.out (by rw [HMN1.out.1]; exact hO1) hb1 hg1 ho1
       rw [HMN1.out.1] at hst
       have e12 : w3.heap[g12]? = some (.cells #[m0, m1] 63 (0, 0)) := (hb1.block g12 HX.out.lt.1).trans (blk_below2 (below_alloc (Below.refl _ _) _) HX.out.c12)
       have f1 := (blk_cell e12 1).trans rfl
       have f2 := blk_frozen e12 1
       have HST := Aside0.mk hst
       have hbw3 : Below w1.heap.size w1 w3 := HBi.out.trans (((below_alloc (Below.refl wr.heap.size wr) _).mono HBi.out.size).trans (hb1.mono HG.out.2.2.2))
       have hbs := below_set (g := g12) (j := 1) (v := (.slice (some ⟨gv, 0, none⟩) (i + 1) capv)) hbw3 HG.out.2.2.1.1
       have h54 : (w3.setCell ⟨g12, 1, none⟩ (.slice (some ⟨gv, 0, none⟩) (i + 1) capv)).heap[g54]? = some (.cells #[.slice (some ada) a.length ca, .slice (some adb) b.length cb] 22 (0, 0)) := blk_far ((hb1.block g54 HG.out.2.1.2).trans (blk_below2 (below_alloc (Below.refl _ _) _) K54.out)) HG.out.2.1.1.1 (.slice (some ⟨gv, 0, none⟩) (i + 1) capv)
       have hBw2 : B ≤ (w3.setCell ⟨g12, 1, none⟩ (.slice (some ⟨gv, 0, none⟩) (i + 1) capv)).heap.size := by have := hb1.size; have := HBW.out; simp [World.setCell] at *; omega
       have HBS := Aside0.mk (And.intro hbs (And.intro h54 hBw2))
       have f3 := (blk_cell hst.c13 1).trans rfl
       clear hO1 hb1 hg1 ho1 hst e12 hbw3 hbs h54 hBw2 HX K54 HBi HBW hcv
       go_upto_region 12 with fail
       go_wp2_with (at_builtin; refine Aside0.out ?_)
       refine ⟨?_⟩
       clear f0 f1 f2 f3
       have hsz4 : (w3.setCell ⟨g12, 1, none⟩ (.slice (some ⟨gv, 0, none⟩) (i + 1) capv)).heap.size = w3.heap.size := World.size_setCell _ _ _
       generalize w3.setCell ⟨g12, 1, none⟩ (.slice (some ⟨gv, 0, none⟩) (i + 1) capv) = w4 at HST HBS hsz4 ⊢
       refine wpList_append_OwnI 22 und22 rfl _ _ rfl B n1 (N1.take i) [g] rfl (HST.out.o3.below (below_alloc (Below.refl _ _) _)) ⟨w3.heap.size, 0, none⟩ 1 1 rfl rfl (by have := one_cell w4 g 3; rw [hsz4] at this; exact this) (by have := HLI.out; omega) (by have := HBS.out.2.2; simp; omega) ?_
       intro v2 w5 hO2 hb2 hg2 ho2
       rw [HMN1.out.2] at hO2
       obtain ⟨gv2, capv2, hvv2, _, _, _⟩ := R2.of_own hO2 (fun e => by have := HNE.out.2; rw [e] at this; simp at this) (by have := HNE.out.2; have := HI5.out; omega)
       rw [HNE.out.2] at hvv2
       subst hvv2
       have hst2 := HST.out.step3 (x := g) HBS.out.2.2 (by rw [HMN1.out.2]; exact hO2) hb2 hg2 ho2
       rw [HMN1.out.2] at hst2
       have e13 : w5.heap[g13]? = some (.cells #[n0, n1] 63 (0, 0)) := (hb2.block g13 HST.out.lt.2.1).trans (blk_below2 (below_alloc (Below.refl _ _) _) HST.out.c13)
       have f1 := (blk_cell e13 1).trans rfl
       have f2 := blk_frozen e13 1
       have HST2 := Aside0.mk hst2
       have hbw5 : Below w1.heap.size w1 w5 := HBS.out.1.trans (((below_alloc (Below.refl w4.heap.size w4) _).mono HBS.out.1.size).trans (hb2.mono HG.out.2.2.2))
       have HB6 := Aside0.mk (below_set (g := g13) (j := 1) (v := (.slice (some ⟨gv2, 0, none⟩) (i + 1) capv2)) hbw5 HG.out.2.2.1.2)
       have K6 := Aside0.mk (blk_far (p := ⟨g13, 1, none⟩) ((hb2.block g54 HG.out.2.1.2).trans (blk_below2 (below_alloc (Below.refl _ _) _) HBS.out.2.1)) HG.out.2.1.1.2 (.slice (some ⟨gv2, 0, none⟩) (i + 1) capv2))
       clear hO2 hb2 hg2 ho2 hst2 e13 hbw5 HST HBS
       go_wp2
       clear f1 f2
       generalize w5.setCell ⟨g13, 1, none⟩ (.slice (some ⟨gv2, 0, none⟩) (i + 1) capv2) = w6 at HST2 HB6 K6 ⊢
       refine ⟨⟨i + 1, _, _, _, _, congrArg _ (wrap_up i (by have := HI5.out; omega)), ⟨n1'⟩, HST2, K6, HB6⟩, ?_⟩
       rw [wrap_up i (by have := HI5.out; omega)]; exact meas_up b.length i n1'
     · have hin : i = b.length := by have := HI.out; omega
       have hd : decide ((i : Int) < (b.length : Int)) = false := decide_eq_false (by omega)
       have hX := HX.out
       have t1 : M1.take i = M1 := by rw [hin]; exact List.take_of_length_le (by rw [HMN.out.2.1, List.length_map, rotL_len]; exact Nat.le_refl _)
       have t2 : N1.take i = N1 := by rw [hin]; exact List.take_of_length_le (by rw [HMN.out.2.2.2, List.length_map, rotL_len]; exact Nat.le_refl _)
       rw [t1, t2] at hX
       have HX2 := Aside0.mk hX
       clear hX t1 t2 HX hin
       go_wp2
       exact ⟨⟨2, m0, m1, n0, n1, rfl, ⟨by omega⟩, ⟨by simpa using HX2.out⟩, K54, HBi⟩, by decide⟩
  | 2, HK, HX =>
    have hX := HX.out
    rw [if_pos (by omega), if_pos (by omega), if_pos (by omega), if_pos (by omega)] at hX
    clear HX
    have HX := Aside0.mk hX
    clear hX
    have hlm0 : M0.length = a.length := by rw [HMN.out.1, List.length_map, rotL_len]
    have hlm1 : M1.length = b.length := by rw [HMN.out.2.1, List.length_map, rotL_len]
    have hln0 : N0.length = a.length := by rw [HMN.out.2.2.1, List.length_map, rotL_len]
    have hln1 : N1.length = b.length := by rw [HMN.out.2.2.2, List.length_map, rotL_len]
    have hal := HS.out.1.1
    have hal5 := HS.out.1.2.1
    have hbl := HS.out.2.1
    have hbl5 := HS.out.2.2.1
    obtain ⟨ga, cpa, e1, _, r1, _⟩ := R2.of_own HX.out.o0 (fun e => by rw [e] at hlm0; simp at hlm0; omega) (by omega)
    obtain ⟨gb, cpb, e2, _, r2, _⟩ := R2.of_own HX.out.o1 (fun e => by rw [e] at hlm1; simp at hlm1; omega) (by omega)
    obtain ⟨gc, cpc, e3, _, r3, _⟩ := R2.of_own HX.out.o2 (fun e => by rw [e] at hln0; simp at hln0; omega) (by omega)
    obtain ⟨gd, cpd, e4, _, r4, _⟩ := R2.of_own HX.out.o3 (fun e => by rw [e] at hln1; simp at hln1; omega) (by omega)
    have c12 := HX.out.c12
    have c13 := HX.out.c13
    rw [e1, e2, hlm0, hlm1] at c12
    rw [e3, e4, hln0, hln1] at c13
    have K12 := Aside0.mk c12
    have K13 := Aside0.mk c13
    have HR4 := Aside0.mk (And.intro r1 (And.intro r2 (And.intro r3 r4)))
    have HLN := Aside0.mk (show a.length = M0.length ∧ b.length = M1.length ∧ a.length = N0.length ∧ b.length = N1.length from ⟨hlm0.symm, hlm1.symm, hln0.symm, hln1.symm⟩)
    obtain ⟨F, hF⟩ : ∃ F, F = cntB a b (fun x => decide (x ≤ beatsI a b)) := ⟨_, rfl⟩
    obtain ⟨G, hG⟩ : ∃ F, F = cntB a b (fun x => decide (beatsI a b ≤ x)) := ⟨_, rfl⟩
    obtain ⟨L, hL⟩ : ∃ F, F = cntB a b (fun _ => true) := ⟨_, rfl⟩
    obtain ⟨p1, hp1⟩ : ∃ p, p = (chanceI a b).1 := ⟨_, rfl⟩
    obtain ⟨p2, hp2⟩ : ∃ p, p = (chanceI a b).2 := ⟨_, rfl⟩
    have tails_of : ∀ (C D : List Int) (u v : Nat), bothI C D = 0 → (cntB C D (fun x => decide (x ≤ beatsI C D)) = u ∧ cntB C D (fun x => decide (beatsI C D ≤ x)) = v ∧ cntB C D (fun _ => true) = cntB a b (fun _ => true) ∧ chanceI C D = chanceI a b) → hand_Tails.f C D = some ((u : Int), (v : Int), (L : Int), 0) ∧ hand_Chance.f C D = some (p1, p2, 0) := fun C D u v hb h => by
      refine ⟨?_, ?_⟩
      · unfold hand_Tails.f; rw [if_pos hb, h.1, h.2.1, h.2.2.1, hL]
      · unfold hand_Chance.f; rw [if_pos hb, h.2.2.2, hp1, hp2]
    have T0 := tails_of a b F G (smp_both HS.out.1 HS.out.2) ⟨hF.symm, hG.symm, rfl, rfl⟩
    have T1 := tails_of b a G F (smp_both HS.out.2 HS.out.1) (by have h := exch_rev a b b a (Nat.mul_comm _ _) (beats_swap a b) (cntB_exch a b); rw [← hF, ← hG] at h; exact h)
    have hTb := HT.out.1
    have hbM : bothI M0 M1 = 0 := by
      have key : ∀ (l m : List Int), SmpOK l → m = (rotL l y.toNat).map (fun v => z + T * v) → chk m = 0 := fun l m hl hm => by
        refine chk_of (by rw [hm, List.length_map, rotL_len]; exact hl.1) (by rw [hm, List.length_map, rotL_len]; have := hl.2.1; omega) (fun x hx => ?_)
        rw [hm] at hx
        obtain ⟨v, hv, rfl⟩ := List.mem_map.1 hx
        have hvb := hl.2.2 v ((rotL_perm l y.toNat).subset hv)
        have h1 : T * (v + 3) = T * v + T * 3 := Int.mul_add _ _ _
        have h2 := mul_in (x := T) (y := v + 3) (p := 9) (q := 66) (by omega) (by omega)
        have := HY.out
        omega
      unfold bothI
      rw [if_pos (key a M0 HS.out.1 HMN.out.1), key b M1 HS.out.2 HMN.out.2.1]
    have hbN : bothI N0 N1 = 0 := by
      have key : ∀ (l m : List Int), SmpOK l → m = (rotL l y.toNat).map (fun v => -v) → chk m = 0 := fun l m hl hm => by
        refine chk_of (by rw [hm, List.length_map, rotL_len]; exact hl.1) (by rw [hm, List.length_map, rotL_len]; have := hl.2.1; omega) (fun x hx => ?_)
        rw [hm] at hx
        obtain ⟨v, hv, rfl⟩ := List.mem_map.1 hx
        have hvb := hl.2.2 v ((rotL_perm l y.toNat).subset hv)
        omega
      unfold bothI
      rw [if_pos (key a N0 HS.out.1 HMN.out.2.2.1), key b N1 HS.out.2 HMN.out.2.2.2]
    have T2 := tails_of M0 M1 F G hbM (by
      have h := exch_same a b M0 M1 (by rw [hlm0, hlm1]) (by rw [HMN.out.1, HMN.out.2.1, beats_map _ (fun x y => score_aff z T x y hTb.1)]; exact beatsI_perm (rotL_perm a _) (rotL_perm b _)) (fun q => by rw [HMN.out.1, HMN.out.2.1, cntB_map _ (fun x y => score_aff z T x y hTb.1)]; exact cntB_perm2 (rotL_perm a _) (rotL_perm b _) q)
      rw [← hF, ← hG] at h
      exact h)
    have T3 := tails_of N0 N1 G F hbN (by
      have h := exch_rev a b N0 N1 (by rw [hln0, hln1]) (by rw [HMN.out.2.2.1, HMN.out.2.2.2, beats_neg _ score_neg, rotL_len, rotL_len, beatsI_perm (rotL_perm a _) (rotL_perm b _)]) (fun q => by rw [HMN.out.2.2.1, HMN.out.2.2.2, cntB_neg _ score_neg, rotL_len, rotL_len]; exact cntB_perm2 (rotL_perm a _) (rotL_perm b _) _)
      rw [← hF, ← hG] at h
      exact h)
    have HTL := Aside0.mk (And.intro T0 (And.intro T1 (And.intro T2 T3)))
    clear hlm0 hlm1 hln0 hln1 hal hal5 hbl hbl5 e1 e2 e3 e4 r1 r2 r3 r4 c12 c13 hF hG hL hp1 hp2 tails_of T0 T1 T2 T3 hTb hbM hbN HX
    go_wp2_with fail
    refine (hand_Tails.calls (some ada) ca a (some adb) cb b F G L 0 _ (Kd.C_below HCa.out.2 HBr.out) HCa.out.1 (Kd.C_below HCb.out.2 HBr.out) HCb.out.1 HTL.out.1.1).mono ?_
    rintro e w2 ⟨rfl, hb⟩
    have HB2 := Aside0.mk (HBr.out.trans (hb.mono HBr.out.size))
    have K12' := Aside0.mk (blk_below2 hb K12.out)
    have K13' := Aside0.mk (blk_below2 hb K13.out)
    have HR5 := Aside0.mk (And.intro (HR4.out.1.below hb) (And.intro (HR4.out.2.1.below hb) (And.intro (HR4.out.2.2.1.below hb) (HR4.out.2.2.2.below hb))))
    clear hb HBr K12 K13 HR4 K54
    go_wp2_with fail
    refine (hand_Chance.calls (some ada) ca a (some adb) cb b p1 p2 0 _ (Kd.C_below HCa.out.2 HB2.out) HCa.out.1 (Kd.C_below HCb.out.2 HB2.out) HCb.out.1 HTL.out.1.2).mono ?_
    rintro e w3 ⟨rfl, hb⟩
    have HB3 := Aside0.mk (HB2.out.trans (hb.mono HB2.out.size))
    have hba := below_alloc (Below.refl w3.heap.size w3) (.cells #[.int .i64 p1, .int .i64 p2] 34)
    have HB4 := Aside0.mk (HB3.out.trans (hba.mono HB3.out.size))
    have K22 := Aside0.mk (blk_new w3 (.cells #[.int .i64 p1, .int .i64 p2] 34))
    have K12 := Aside0.mk (blk_below2 hba (blk_below2 hb K12'.out))
    have K13 := Aside0.mk (blk_below2 hba (blk_below2 hb K13'.out))
    have HR4 := Aside0.mk (And.intro ((HR5.out.1.below hb).below hba) (And.intro ((HR5.out.2.1.below hb).below hba) (And.intro ((HR5.out.2.2.1.below hb).below hba) ((HR5.out.2.2.2.below hb).below hba))))
    obtain ⟨g22, hg22⟩ : ∃ g, g = w3.heap.size := ⟨_, rfl⟩
    rw [← hg22] at K22
    clear hb hba HB2 HB3 K12' K13' HR5
    have f0 := (blk_cell K12.out 0).trans rfl
    have f1 := (blk_cell K12.out 1).trans rfl
    have f2 := (blk_cell K13.out 0).trans rfl
    have f3 := (blk_cell K13.out 1).trans rfl
    go_wp2
    obtain ⟨w4, hw4⟩ : ∃ W : World, W = (w3.alloc (.cells #[.int .i64 p1, .int .i64 p2] 34)).alloc (.cells #[.slice (some adb) b.length cb, .slice (some ada) a.length ca, .slice (some ⟨ga, 0, none⟩) a.length cpa, .slice (some ⟨gb, 0, none⟩) b.length cpb, .slice (some ⟨gc, 0, none⟩) a.length cpc, .slice (some ⟨gd, 0, none⟩) b.length cpd] 63) := ⟨_, rfl⟩
    have hs4 : (w3.alloc (.cells #[.int .i64 p1, .int .i64 p2] 34)).heap.size = w3.heap.size + 1 := by simp
    have hbx := below_alloc (Below.refl (w3.alloc (.cells #[.int .i64 p1, .int .i64 p2] 34)).heap.size (w3.alloc (.cells #[.int .i64 p1, .int .i64 p2] 34))) (.cells #[.slice (some adb) b.length cb, .slice (some ada) a.length ca, .slice (some ⟨ga, 0, none⟩) a.length cpa, .slice (some ⟨gb, 0, none⟩) b.length cpb, .slice (some ⟨gc, 0, none⟩) a.length cpc, .slice (some ⟨gd, 0, none⟩) b.length cpd] 63)
    rw [← hw4] at hbx
    have k28 : w4.heap[w3.heap.size + 1]? = some (.cells #[.slice (some adb) b.length cb, .slice (some ada) a.length ca, .slice (some ⟨ga, 0, none⟩) a.length cpa, .slice (some ⟨gb, 0, none⟩) b.length cpb, .slice (some ⟨gc, 0, none⟩) a.length cpc, .slice (some ⟨gd, 0, none⟩) b.length cpd] 63 (0, 0)) := by rw [hw4, ← hs4]; exact blk_new _ _
    have k22 := blk_below2 hbx K22.out
    have hb4 := HB4.out.trans (hbx.mono HB4.out.size)
    have CA := Aside0.mk (And.intro HCa.out.1 (Kd.C_below HCa.out.2 hb4))
    have CB := Aside0.mk (And.intro HCb.out.1 (Kd.C_below HCb.out.2 hb4))
    have CM0 := Aside0.mk (And.intro HR4.out.1.le.1 (Kd.C_below HR4.out.1.C hbx))
    have CM1 := Aside0.mk (And.intro HR4.out.2.1.le.1 (Kd.C_below HR4.out.2.1.C hbx))
    have CN0 := Aside0.mk (And.intro HR4.out.2.2.1.le.1 (Kd.C_below HR4.out.2.2.1.C hbx))
    have CN1 := Aside0.mk (And.intro HR4.out.2.2.2.le.1 (Kd.C_below HR4.out.2.2.2.C hbx))
    clear hs4 f0 f1 f2 f3 K12 K13 HB4 HR4 K22
    rw [← hw4, ← hg22]
    rw [← hg22] at k28
    clear hw4 hg22 hbx
    obtain ⟨g28, hg28⟩ : ∃ g, g = g22 + 1 := ⟨_, rfl⟩
    rw [← hg28] at k28
    try rw [← hg28]
    clear hg28
    have K22 := Aside0.mk k22
    have K28 := Aside0.mk k28
    have HB4 := Aside0.mk hb4
    clear k22 k28 hb4 w3
    go_loopw [130] (fun s130 wi => ∃ k : Nat, s130 = .int .i64 k ∧ Aside0 (k ≤ 3) ∧ Aside0 (Below w4.heap.size w4 wi)) (fun s130 _ => 3 - (intOf s130).toNat)
    case atStart => exact ⟨0, rfl, ⟨by omega⟩, ⟨Below.refl _ _⟩⟩
    case round =>
     obtain ⟨k, rfl, HK3, HBi⟩ := hrel
     match k, HK3 with
     | 0, HK3 =>
       rw [show ((0 : Nat) : Int) = (0 : Int) from rfl]
       have k28 := blk_below2 HBi.out K28.out
       have f0 := (blk_cell k28 0).trans rfl
       have f1 := (blk_cell k28 1).trans rfl
       obtain ⟨gx, hgx⟩ : ∃ g, g = wr.heap.size := ⟨_, rfl⟩
       have hbx := below_alloc (Below.refl wr.heap.size wr) (.cells #[.slice (some adb) b.length cb, .slice (some ada) a.length ca] 63)
       have HB5 := Aside0.mk (HBi.out.trans (hbx.mono HBi.out.size))
       have kx := blk_new wr (.cells #[.slice (some adb) b.length cb, .slice (some ada) a.length ca] 63)
       have KX := Aside0.mk kx
       clear hbx kx k28 hgx
       go_wp2_with fail
       clear f0 f1
       refine (tails_n (some adb) cb b.length b (some ada) ca a.length a G F L 0 _ rfl rfl (Kd.C_below CB.out.2 HB5.out) CB.out.1 (Kd.C_below CA.out.2 HB5.out) CA.out.1 HTL.out.2.1.1).mono ?_
       rintro e w5 ⟨rfl, hb⟩
       have HB6 := Aside0.mk (HB5.out.trans (hb.mono HB5.out.size))
       have kx := blk_below2 hb KX.out
       have f0 := (blk_cell kx 0).trans rfl
       have f1 := (blk_cell kx 1).trans rfl
       clear hb kx HB5 KX
       go_wp2_with fail
       clear f0 f1
       refine (chance_n (some adb) cb b.length b (some ada) ca a.length a p1 p2 0 _ rfl rfl (Kd.C_below CB.out.2 HB6.out) CB.out.1 (Kd.C_below CA.out.2 HB6.out) CA.out.1 HTL.out.2.1.2).mono ?_
       rintro e w6 ⟨rfl, hb⟩
       have hb7 := HB6.out.trans (hb.mono HB6.out.size)
       have hba := below_alloc (Below.refl w6.heap.size w6) (.cells #[.int .i64 p1, .int .i64 p2] 34)
       have HB8 := Aside0.mk (hb7.trans (hba.mono hb7.size))
       have k22 := blk_below2 HB8.out K22.out
       have f0 := (blk_cell k22 0).trans rfl
       have f1 := (blk_cell k22 1).trans rfl
       clear hb hb7 hba k22 HB6
       go_wp2
       exact ⟨⟨1, rfl, ⟨by omega⟩, HB8⟩, by decide⟩
     | 1, HK3 =>
       rw [show ((1 : Nat) : Int) = (1 : Int) from rfl]
       have k28 := blk_below2 HBi.out K28.out
       have f0 := (blk_cell k28 2).trans rfl
       have f1 := (blk_cell k28 3).trans rfl
       obtain ⟨gx, hgx⟩ : ∃ g, g = wr.heap.size := ⟨_, rfl⟩
       have hbx := below_alloc (Below.refl wr.heap.size wr) (.cells #[.slice (some ⟨ga, 0, none⟩) a.length cpa, .slice (some ⟨gb, 0, none⟩) b.length cpb] 63)
       have HB5 := Aside0.mk (HBi.out.trans (hbx.mono HBi.out.size))
       have kx := blk_new wr (.cells #[.slice (some ⟨ga, 0, none⟩) a.length cpa, .slice (some ⟨gb, 0, none⟩) b.length cpb] 63)
       have KX := Aside0.mk kx
       clear hbx kx k28 hgx
       go_wp2_with fail
       clear f0 f1
       refine (tails_n (some ⟨ga, 0, none⟩) cpa a.length M0 (some ⟨gb, 0, none⟩) cpb b.length M1 F G L 0 _ HLN.out.1 HLN.out.2.1 (Kd.C_below CM0.out.2 HB5.out) CM0.out.1 (Kd.C_below CM1.out.2 HB5.out) CM1.out.1 HTL.out.2.2.1.1).mono ?_
       rintro e w5 ⟨rfl, hb⟩
       have HB6 := Aside0.mk (HB5.out.trans (hb.mono HB5.out.size))
       have kx := blk_below2 hb KX.out
       have f0 := (blk_cell kx 0).trans rfl
       have f1 := (blk_cell kx 1).trans rfl
       clear hb kx HB5 KX
       go_wp2_with fail
       clear f0 f1
       refine (chance_n (some ⟨ga, 0, none⟩) cpa a.length M0 (some ⟨gb, 0, none⟩) cpb b.length M1 p1 p2 0 _ HLN.out.1 HLN.out.2.1 (Kd.C_below CM0.out.2 HB6.out) CM0.out.1 (Kd.C_below CM1.out.2 HB6.out) CM1.out.1 HTL.out.2.2.1.2).mono ?_
       rintro e w6 ⟨rfl, hb⟩
       have hb7 := HB6.out.trans (hb.mono HB6.out.size)
       have hba := below_alloc (Below.refl w6.heap.size w6) (.cells #[.int .i64 p1, .int .i64 p2] 34)
       have HB8 := Aside0.mk (hb7.trans (hba.mono hb7.size))
       have k22 := blk_below2 HB8.out K22.out
       have f0 := (blk_cell k22 0).trans rfl
       have f1 := (blk_cell k22 1).trans rfl
       clear hb hb7 hba k22 HB6
       go_wp2
       exact ⟨⟨2, rfl, ⟨by omega⟩, HB8⟩, by decide⟩
     | 2, HK3 =>
       rw [show ((2 : Nat) : Int) = (2 : Int) from rfl]
       have k28 := blk_below2 HBi.out K28.out
       have f0 := (blk_cell k28 4).trans rfl
       have f1 := (blk_cell k28 5).trans rfl
       obtain ⟨gx, hgx⟩ : ∃ g, g = wr.heap.size := ⟨_, rfl⟩
       have hbx := below_alloc (Below.refl wr.heap.size wr) (.cells #[.slice (some ⟨gc, 0, none⟩) a.length cpc, .slice (some ⟨gd, 0, none⟩) b.length cpd] 63)
       have HB5 := Aside0.mk (HBi.out.trans (hbx.mono HBi.out.size))
       have kx := blk_new wr (.cells #[.slice (some ⟨gc, 0, none⟩) a.length cpc, .slice (some ⟨gd, 0, none⟩) b.length cpd] 63)
       have KX := Aside0.mk kx
       clear hbx kx k28 hgx
       go_wp2_with fail
       clear f0 f1
       refine (tails_n (some ⟨gc, 0, none⟩) cpc a.length N0 (some ⟨gd, 0, none⟩) cpd b.length N1 G F L 0 _ HLN.out.2.2.1 HLN.out.2.2.2 (Kd.C_below CN0.out.2 HB5.out) CN0.out.1 (Kd.C_below CN1.out.2 HB5.out) CN1.out.1 HTL.out.2.2.2.1).mono ?_
       rintro e w5 ⟨rfl, hb⟩
       have HB6 := Aside0.mk (HB5.out.trans (hb.mono HB5.out.size))
       have kx := blk_below2 hb KX.out
       have f0 := (blk_cell kx 0).trans rfl
       have f1 := (blk_cell kx 1).trans rfl
       clear hb kx HB5 KX
       go_wp2_with fail
       clear f0 f1
       refine (chance_n (some ⟨gc, 0, none⟩) cpc a.length N0 (some ⟨gd, 0, none⟩) cpd b.length N1 p1 p2 0 _ HLN.out.2.2.1 HLN.out.2.2.2 (Kd.C_below CN0.out.2 HB6.out) CN0.out.1 (Kd.C_below CN1.out.2 HB6.out) CN1.out.1 HTL.out.2.2.2.2).mono ?_
       rintro e w6 ⟨rfl, hb⟩
       have hb7 := HB6.out.trans (hb.mono HB6.out.size)
       have hba := below_alloc (Below.refl w6.heap.size w6) (.cells #[.int .i64 p1, .int .i64 p2] 34)
       have HB8 := Aside0.mk (hb7.trans (hba.mono hb7.size))
       have k22 := blk_below2 HB8.out K22.out
       have f0 := (blk_cell k22 0).trans rfl
       have f1 := (blk_cell k22 1).trans rfl
       clear hb hb7 hba k22 HB6
       go_wp2
       exact ⟨⟨3, rfl, ⟨by omega⟩, HB8⟩, by decide⟩
     | 3, HK3 =>
       go_wp2
       obtain ⟨wL, hwL⟩ : ∃ W : World, W = wr := ⟨_, rfl⟩
       subst hwL
       obtain ⟨U, hU⟩ : ∃ l, l = (rotL (a.take n) y.toNat).map (fun x => 5 * x + 2) := ⟨_, rfl⟩
       obtain ⟨V, hV⟩ : ∃ l, l = (rotL (b.take n) y.toNat).map (fun x => 5 * x + 2) := ⟨_, rfl⟩
       have HUV := Aside0.mk (And.intro hU hV)
       clear hU hV HK3
       go_loopw [32, 33, 34] (fun s32 s33 s34 wi => ∃ (i : Nat) (vl vh : Value), s32 = vl ∧ s33 = vh ∧ s34 = .int .i64 i ∧ Aside0 (i ≤ n) ∧ Aside0 (OwnI wi wL.heap.size vl (U.take i)) ∧ Aside0 (OwnI wi wL.heap.size vh (V.take i)) ∧ Aside0 (∀ k, vl.ownBlock = some k → vh.ownBlock ≠ some k) ∧ Aside0 (Below wL.heap.size wL wi)) (fun _ _ s34 _ => n - (intOf s34).toNat)
       case atStart => exact ⟨0, .slice none 0 0, .slice none 0 0, rfl, rfl, rfl, ⟨Nat.zero_le _⟩, ⟨OwnI.nil⟩, ⟨OwnI.nil⟩, ⟨fun k hk => by cases hk⟩, ⟨Below.refl _ _⟩⟩
       case round =>
        obtain ⟨i, vl, vh, e32, e33, rfl, HI, HOL, HOH, HDI, HBr⟩ := hrel
        replace e32 := e32.symm
        replace e33 := e33.symm
        subst e32
        subst e33
        by_cases hj : i < n
        · have n1 : i < n := hj
          have hd : decide ((i : Int) < (n : Int)) = true := decide_eq_true (by omega)
          clear hj
          obtain ⟨iy, hiy⟩ : ∃ iy : Nat, iy = i + y.toNat := ⟨_, rfl⟩
          obtain ⟨j, hj⟩ : ∃ j : Nat, j = iy % n := ⟨_, rfl⟩
          have hn1 : 1 ≤ n := HN.out.1.1
          have nj : j < n := by rw [hj]; exact Nat.mod_lt _ (by omega)
          have nja : j < a.length := by have := HN.out.2.1; omega
          have njb : j < b.length := by have := HN.out.2.2.1; omega
          have nz : ¬ n = 0 := by omega
          obtain ⟨va, hva⟩ : ∃ v, v = rd a (j : Int) := ⟨_, rfl⟩
          obtain ⟨vb, hvb⟩ : ∃ v, v = rd b (j : Int) := ⟨_, rfl⟩
          have hba := HS.out.1.2.2 _ (rd_mem a nja)
          have hbb := HS.out.2.2.2 _ (rd_mem b njb)
          rw [← hva] at hba
          rw [← hvb] at hbb
          have hta : (a.take n).length = n := by rw [List.length_take]; have := HN.out.2.1; omega
          have htb : (b.take n).length = n := by rw [List.length_take]; have := HN.out.2.2.1; omega
          have hrA : rd (rotL (a.take n) y.toNat) (i : Int) = va := by rw [rotL_rd (a.take n) y.toNat (by rw [hta]; exact n1), hta, ← hiy, ← hj, hva, rd_take a n j nj]
          have hrB : rd (rotL (b.take n) y.toNat) (i : Int) = vb := by rw [rotL_rd (b.take n) y.toNat (by rw [htb]; exact n1), htb, ← hiy, ← hj, hvb, rd_take b n j nj]
          have e1 := HT.out.2.2.1
          have e5 : wrap64 ((i : Int) + y) = (iy : Int) := by rw [w64' _ (by have := HY.out; have := HN.out; omega) (by have := HY.out; have := HN.out; omega)]; have := HY.out; omega
          have e6 : Int.tmod (iy : Int) (n : Int) = (j : Int) := by rw [tmod_nat, hj]
          obtain ⟨ma, hma⟩ : ∃ u, u = 5 * va := ⟨_, rfl⟩
          obtain ⟨mb, hmb⟩ : ∃ u, u = 5 * vb := ⟨_, rfl⟩
          obtain ⟨u0, hu0⟩ : ∃ u, u = ma + 2 := ⟨_, rfl⟩
          obtain ⟨u1, hu1⟩ : ∃ u, u = mb + 2 := ⟨_, rfl⟩
          have e7 : wrap64 (5 * va) = ma := by rw [hma, w64' _ (by omega) (by omega)]
          have e8 : wrap64 (5 * vb) = mb := by rw [hmb, w64' _ (by omega) (by omega)]
          have e9 : wrap64 (ma + 2) = u0 := by rw [hu0, w64' _ (by omega) (by omega)]
          have e10 : wrap64 (mb + 2) = u1 := by rw [hu1, w64' _ (by omega) (by omega)]
          have tA := rd_cell (Kd.C_below CA.out.2 HBi.out) j nja
          have tB := rd_cell (Kd.C_below CB.out.2 HBi.out) j njb
          rw [← hva] at tA
          rw [← hvb] at tB
          have HE1 := Aside0.mk (show U.take i ++ [u0] = U.take (i + 1) by
            rw [HUV.out.1, ← List.map_take, ← List.map_take, take_rd _ (by rw [rotL_len, hta]; exact n1), List.map_append, hrA, hu0, hma]
            rfl)
          have HE2 := Aside0.mk (show V.take i ++ [u1] = V.take (i + 1) by
            rw [HUV.out.2, ← List.map_take, ← List.map_take, take_rd _ (by rw [rotL_len, htb]; exact n1), List.map_append, hrB, hu1, hmb]
            rfl)
          have HT0 := Aside0.mk (And.intro tA tB)
          have HLL := Aside0.mk (show (U.take i).length ≤ 1000 ∧ (V.take i).length ≤ 1000 by rw [List.length_take, List.length_take]; have := HN.out; omega)
          clear hiy hj hn1 hva hvb hba hbb hta htb hrA hrB hma hmb hu0 hu1 tA tB nj
          go_upto_region 33 with fail
          have HBD := Aside0.mk (below_drew1 HBr.out)
          have HSS := Aside0.mk (And.intro (pw_cell_below HBD.out HT0.out.1) (pw_cell_below HBD.out HT0.out.2))
          have hbd : Below wr.heap.size wr wr.drew := below_drew (Below.refl wr.heap.size wr)
          have HO := Aside0.mk (And.intro (HOL.out.below hbd) (And.intro (HOH.out.below hbd) HDI.out))
          clear hbd HOL HOH HDI HBr
          refine start_ (n := 30) (S := fun w' => w'.cell? (ada.add j) = some (.int .i64 va) ∧ w'.cell? (adb.add j) = some (.int .i64 vb)) (ds := []) #[false, false, false, false, false, false, false, false, false, false, false, false, false, false, false, false, false, false, false, false, false, false, false, false, false, false, false, false, false, false] (by kernel_rfl) rfl rfl HSS.out (fun hHeld => ?_)
          refine with_tabW tr33_tab tr33_bits (fun HT_ HW_ => ?_)
          generalize wr.drew = wD at HBD HSS HO hHeld ⊢
          refine take_ (i := 0) (N := some 189) (v := ?_) (a' := ?_) #[true, false, false, false, false, false, false, false, false, false, false, false, false, false, false, false, false, false, false, false, false, false, false, false, false, false, false, false, false, false] rfl rfl (take_ofW HT_.out HW_.out (by kernel_rfl)) (fun _ _ _ h => h) (Or.inl ⟨by rfl, ?_⟩) hHeld ?_ ?_
          rotate_left
          · rintro w' ⟨s0, s1⟩
            go_simp
            with_reducible rfl
          rotate_left
          · simp only [Act.put, List.setIfInBounds_toArray, List.set_cons_zero, List.set_cons_succ, i64_w, i32_w]
            rfl
          refine take_ (i := 1) (N := some 190) (v := ?_) (a' := ?_) #[true, true, false, false, false, false, false, false, false, false, false, false, false, false, false, false, false, false, false, false, false, false, false, false, false, false, false, false, false, false] rfl rfl (take_ofW HT_.out HW_.out (by kernel_rfl)) (fun _ _ _ h => h) (Or.inl ⟨by rfl, ?_⟩) hHeld ?_ ?_
          rotate_left
          · rintro w' ⟨s0, s1⟩
            go_simp
            with_reducible rfl
          rotate_left
          · simp only [Act.put, List.setIfInBounds_toArray, List.set_cons_zero, List.set_cons_succ, i64_w, i32_w]
            rfl
          refine take_ (i := 2) (N := some 191) (v := ?_) (a' := ?_) #[true, true, true, false, false, false, false, false, false, false, false, false, false, false, false, false, false, false, false, false, false, false, false, false, false, false, false, false, false, false] rfl rfl (take_ofW HT_.out HW_.out (by kernel_rfl)) (fun _ _ _ h => h) (Or.inl ⟨by rfl, ?_⟩) hHeld ?_ ?_
          rotate_left
          · rintro w' ⟨s0, s1⟩
            go_simp
            with_reducible rfl
          rotate_left
          · simp only [Act.put, List.setIfInBounds_toArray, List.set_cons_zero, List.set_cons_succ, i64_w, i32_w]
            rfl
          refine take_ (i := 3) (N := some 192) (v := ?_) (a' := ?_) #[true, true, true, true, false, false, false, false, false, false, false, false, false, false, false, false, false, false, false, false, false, false, false, false, false, false, false, false, false, false] rfl rfl (take_ofW HT_.out HW_.out (by kernel_rfl)) (fun _ _ _ h => h) (Or.inl ⟨by rfl, ?_⟩) hHeld ?_ ?_
          rotate_left
          · rintro w' ⟨s0, s1⟩
            go_simp
            with_reducible rfl
          rotate_left
          · simp only [Act.put, List.setIfInBounds_toArray, List.set_cons_zero, List.set_cons_succ, i64_w, i32_w]
            rfl
          refine take_ (i := 4) (N := some 193) (v := ?_) (a' := ?_) #[true, true, true, true, true, false, false, false, false, false, false, false, false, false, false, false, false, false, false, false, false, false, false, false, false, false, false, false, false, false] rfl rfl (take_ofW HT_.out HW_.out (by kernel_rfl)) (fun _ _ _ h => h) (Or.inl ⟨by rfl, ?_⟩) hHeld ?_ ?_
          rotate_left
          · rintro w' ⟨s0, s1⟩
            go_simp
            with_reducible rfl
          rotate_left
          · simp only [Act.put, List.setIfInBounds_toArray, List.set_cons_zero, List.set_cons_succ, i64_w, i32_w]
            rfl
          refine take_ (i := 5) (N := some 194) (v := ?_) (a' := ?_) #[true, true, true, true, true, true, false, false, false, false, false, false, false, false, false, false, false, false, false, false, false, false, false, false, false, false, false, false, false, false] rfl rfl (take_ofW HT_.out HW_.out (by kernel_rfl)) (fun _ _ _ h => h) (Or.inl ⟨by rfl, ?_⟩) hHeld ?_ ?_
          rotate_left
          · rintro w' ⟨s0, s1⟩
            go_simp
            with_reducible rfl
          rotate_left
          · simp only [Act.put, List.setIfInBounds_toArray, List.set_cons_zero, List.set_cons_succ, i64_w, i32_w]
            rfl
          refine take_ (i := 6) (N := some 195) (v := ?_) (a' := ?_) #[true, true, true, true, true, true, true, false, false, false, false, false, false, false, false, false, false, false, false, false, false, false, false, false, false, false, false, false, false, false] rfl rfl (take_ofW HT_.out HW_.out (by kernel_rfl)) (fun _ _ _ h => h) (Or.inl ⟨by rfl, ?_⟩) hHeld ?_ ?_
          rotate_left
          · rintro w' ⟨s0, s1⟩
            go_simp
            with_reducible rfl
          rotate_left
          · simp only [Act.put, List.setIfInBounds_toArray, List.set_cons_zero, List.set_cons_succ, i64_w, i32_w]
            rfl
          refine take_ (i := 7) (N := some 196) (v := ?_) (a' := ?_) #[true, true, true, true, true, true, true, true, false, false, false, false, false, false, false, false, false, false, false, false, false, false, false, false, false, false, false, false, false, false] rfl rfl (take_ofW HT_.out HW_.out (by kernel_rfl)) (fun _ _ _ h => h) (Or.inl ⟨by rfl, ?_⟩) hHeld ?_ ?_
          rotate_left
          · rintro w' ⟨s0, s1⟩
            go_simp
            with_reducible rfl
          rotate_left
          · simp only [Act.put, List.setIfInBounds_toArray, List.set_cons_zero, List.set_cons_succ, i64_w, i32_w]
            rfl
          refine take_ (i := 8) (N := some 197) (v := ?_) (a' := ?_) #[true, true, true, true, true, true, true, true, true, false, false, false, false, false, false, false, false, false, false, false, false, false, false, false, false, false, false, false, false, false] rfl rfl (take_ofW HT_.out HW_.out (by kernel_rfl)) (fun _ _ _ h => h) (Or.inl ⟨by rfl, ?_⟩) hHeld ?_ ?_
          rotate_left
          · rintro w' ⟨s0, s1⟩
            go_simp
            with_reducible rfl
          rotate_left
          · simp only [Act.put, List.setIfInBounds_toArray, List.set_cons_zero, List.set_cons_succ, i64_w, i32_w]
            rfl
          refine take_ (i := 9) (N := some 198) (v := ?_) (a' := ?_) #[true, true, true, true, true, true, true, true, true, true, false, false, false, false, false, false, false, false, false, false, false, false, false, false, false, false, false, false, false, false] rfl rfl (take_ofW HT_.out HW_.out (by kernel_rfl)) (fun _ _ _ h => h) (Or.inl ⟨by rfl, ?_⟩) hHeld ?_ ?_
          rotate_left
          · rintro w' ⟨s0, s1⟩
            go_simp
            with_reducible rfl
          rotate_left
          · simp only [Act.put, List.setIfInBounds_toArray, List.set_cons_zero, List.set_cons_succ, i64_w, i32_w]
            rfl
          refine take_ (i := 10) (N := some 199) (v := ?_) (a' := ?_) #[true, true, true, true, true, true, true, true, true, true, true, false, false, false, false, false, false, false, false, false, false, false, false, false, false, false, false, false, false, false] rfl rfl (take_ofW HT_.out HW_.out (by kernel_rfl)) (fun _ _ _ h => h) (Or.inl ⟨by rfl, ?_⟩) hHeld ?_ ?_
          rotate_left
          · rintro w' ⟨s0, s1⟩
            go_simp
            with_reducible rfl
          rotate_left
          · simp only [Act.put, List.setIfInBounds_toArray, List.set_cons_zero, List.set_cons_succ, i64_w, i32_w]
            rfl
          refine take_ (i := 11) (N := some 200) (v := ?_) (a' := ?_) #[true, true, true, true, true, true, true, true, true, true, true, true, false, false, false, false, false, false, false, false, false, false, false, false, false, false, false, false, false, false] rfl rfl (take_ofW HT_.out HW_.out (by kernel_rfl)) (fun _ _ _ h => h) (Or.inl ⟨by rfl, ?_⟩) hHeld ?_ ?_
          rotate_left
          · rintro w' ⟨s0, s1⟩
            go_simp
            with_reducible rfl
          rotate_left
          · simp only [Act.put, List.setIfInBounds_toArray, List.set_cons_zero, List.set_cons_succ, i64_w, i32_w]
            rfl
          refine take_ (i := 14) (N := some 203) (v := ?_) (a' := ?_) #[true, true, true, true, true, true, true, true, true, true, true, true, false, false, true, false, false, false, false, false, false, false, false, false, false, false, false, false, false, false] rfl rfl (take_ofW HT_.out HW_.out (by kernel_rfl)) (fun _ _ _ h => h) (Or.inl ⟨by rfl, ?_⟩) hHeld ?_ ?_
          rotate_left
          · rintro w' ⟨s0, s1⟩
            go_simp
            with_reducible rfl
          rotate_left
          · simp only [Act.put, List.setIfInBounds_toArray, List.set_cons_zero, List.set_cons_succ, i64_w, i32_w]
            rfl
          refine take_ (i := 15) (N := some 204) (v := ?_) (a' := ?_) #[true, true, true, true, true, true, true, true, true, true, true, true, false, false, true, true, false, false, false, false, false, false, false, false, false, false, false, false, false, false] rfl rfl (take_ofW HT_.out HW_.out (by kernel_rfl)) (fun _ _ _ h => h) (Or.inl ⟨by rfl, ?_⟩) hHeld ?_ ?_
          rotate_left
          · rintro w' ⟨s0, s1⟩
            go_simp
            with_reducible rfl
          rotate_left
          · simp only [Act.put, List.setIfInBounds_toArray, List.set_cons_zero, List.set_cons_succ, i64_w, i32_w]
            rfl
          refine take_ (i := 16) (N := some 205) (v := ?_) (a' := ?_) #[true, true, true, true, true, true, true, true, true, true, true, true, false, false, true, true, true, false, false, false, false, false, false, false, false, false, false, false, false, false] rfl rfl (take_ofW HT_.out HW_.out (by kernel_rfl)) (fun _ _ _ h => h) (Or.inl ⟨by rfl, ?_⟩) hHeld ?_ ?_
          rotate_left
          · rintro w' ⟨s0, s1⟩
            go_simp
            with_reducible rfl
          rotate_left
          · simp only [Act.put, List.setIfInBounds_toArray, List.set_cons_zero, List.set_cons_succ, i64_w, i32_w]
            rfl
          refine take_ (i := 17) (N := some 206) (v := ?_) (a' := ?_) #[true, true, true, true, true, true, true, true, true, true, true, true, false, false, true, true, true, true, false, false, false, false, false, false, false, false, false, false, false, false] rfl rfl (take_ofW HT_.out HW_.out (by kernel_rfl)) (fun _ _ _ h => h) (Or.inl ⟨by rfl, ?_⟩) hHeld ?_ ?_
          rotate_left
          · rintro w' ⟨s0, s1⟩
            go_simp
            with_reducible rfl
          rotate_left
          · simp only [Act.put, List.setIfInBounds_toArray, List.set_cons_zero, List.set_cons_succ, i64_w, i32_w]
            rfl
          refine take_ (i := 18) (N := some 207) (v := ?_) (a' := ?_) #[true, true, true, true, true, true, true, true, true, true, true, true, false, false, true, true, true, true, true, false, false, false, false, false, false, false, false, false, false, false] rfl rfl (take_ofW HT_.out HW_.out (by kernel_rfl)) (fun _ _ _ h => h) (Or.inl ⟨by rfl, ?_⟩) hHeld ?_ ?_
          rotate_left
          · rintro w' ⟨s0, s1⟩
            go_simp
            with_reducible rfl
          rotate_left
          · simp only [Act.put, List.setIfInBounds_toArray, List.set_cons_zero, List.set_cons_succ, i64_w, i32_w]
            rfl
          refine take_ (i := 19) (N := some 208) (v := ?_) (a' := ?_) #[true, true, true, true, true, true, true, true, true, true, true, true, false, false, true, true, true, true, true, true, false, false, false, false, false, false, false, false, false, false] rfl rfl (take_ofW HT_.out HW_.out (by kernel_rfl)) (fun _ _ _ h => h) (Or.inl ⟨by rfl, ?_⟩) hHeld ?_ ?_
          rotate_left
          · rintro w' ⟨s0, s1⟩
            go_simp
            with_reducible rfl
          rotate_left
          · simp only [Act.put, List.setIfInBounds_toArray, List.set_cons_zero, List.set_cons_succ, i64_w, i32_w]
            rfl
          refine take_ (i := 20) (N := some 209) (v := ?_) (a' := ?_) #[true, true, true, true, true, true, true, true, true, true, true, true, false, false, true, true, true, true, true, true, true, false, false, false, false, false, false, false, false, false] rfl rfl (take_ofW HT_.out HW_.out (by kernel_rfl)) (fun _ _ _ h => h) (Or.inl ⟨by rfl, ?_⟩) hHeld ?_ ?_
          rotate_left
          · rintro w' ⟨s0, s1⟩
            go_simp
            with_reducible rfl
          rotate_left
          · simp only [Act.put, List.setIfInBounds_toArray, List.set_cons_zero, List.set_cons_succ, i64_w, i32_w]
            rfl
          refine take_ (i := 21) (N := some 210) (v := ?_) (a' := ?_) #[true, true, true, true, true, true, true, true, true, true, true, true, false, false, true, true, true, true, true, true, true, true, false, false, false, false, false, false, false, false] rfl rfl (take_ofW HT_.out HW_.out (by kernel_rfl)) (fun _ _ _ h => h) (Or.inl ⟨by rfl, ?_⟩) hHeld ?_ ?_
          rotate_left
          · rintro w' ⟨s0, s1⟩
            go_simp
            with_reducible rfl
          rotate_left
          · simp only [Act.put, List.setIfInBounds_toArray, List.set_cons_zero, List.set_cons_succ, i64_w, i32_w]
            rfl
          refine take_ (i := 22) (N := some 211) (v := ?_) (a' := ?_) #[true, true, true, true, true, true, true, true, true, true, true, true, false, false, true, true, true, true, true, true, true, true, true, false, false, false, false, false, false, false] rfl rfl (take_ofW HT_.out HW_.out (by kernel_rfl)) (fun _ _ _ h => h) (Or.inl ⟨by rfl, ?_⟩) hHeld ?_ ?_
          rotate_left
          · rintro w' ⟨s0, s1⟩
            go_simp
            with_reducible rfl
          rotate_left
          · simp only [Act.put, List.setIfInBounds_toArray, List.set_cons_zero, List.set_cons_succ, i64_w, i32_w]
            rfl
          refine take_ (i := 23) (N := some 212) (v := ?_) (a' := ?_) #[true, true, true, true, true, true, true, true, true, true, true, true, false, false, true, true, true, true, true, true, true, true, true, true, false, false, false, false, false, false] rfl rfl (take_ofW HT_.out HW_.out (by kernel_rfl)) (fun _ _ _ h => h) (Or.inl ⟨by rfl, ?_⟩) hHeld ?_ ?_
          rotate_left
          · rintro w' ⟨s0, s1⟩
            go_simp
            with_reducible rfl
          rotate_left
          · simp only [Act.put, List.setIfInBounds_toArray, List.set_cons_zero, List.set_cons_succ, i64_w, i32_w]
            rfl
          refine take_ (i := 24) (N := some 213) (v := ?_) (a' := ?_) #[true, true, true, true, true, true, true, true, true, true, true, true, false, false, true, true, true, true, true, true, true, true, true, true, true, false, false, false, false, false] rfl rfl (take_ofW HT_.out HW_.out (by kernel_rfl)) (fun _ _ _ h => h) (Or.inl ⟨by rfl, ?_⟩) hHeld ?_ ?_
          rotate_left
          · rintro w' ⟨s0, s1⟩
            go_simp
            with_reducible rfl
          rotate_left
          · simp only [Act.put, List.setIfInBounds_toArray, List.set_cons_zero, List.set_cons_succ, i64_w, i32_w]
            rfl
          refine take_ (i := 25) (N := some 214) (v := ?_) (a' := ?_) #[true, true, true, true, true, true, true, true, true, true, true, true, false, false, true, true, true, true, true, true, true, true, true, true, true, true, false, false, false, false] rfl rfl (take_ofW HT_.out HW_.out (by kernel_rfl)) (fun _ _ _ h => h) (Or.inl ⟨by rfl, ?_⟩) hHeld ?_ ?_
          rotate_left
          · rintro w' ⟨s0, s1⟩
            go_simp
            with_reducible rfl
          rotate_left
          · simp only [Act.put, List.setIfInBounds_toArray, List.set_cons_zero, List.set_cons_succ, i64_w, i32_w]
            rfl
          have hH0 := Aside0.mk hHeld
          refine two_ (i := 12) (j := 26) (Ni := some 201) (Nj := some 215) #[true, true, true, true, true, true, true, true, true, true, true, true, true, false, true, true, true, true, true, true, true, true, true, true, true, true, false, false, false, false] #[true, true, true, true, true, true, true, true, true, true, true, true, false, false, true, true, true, true, true, true, true, true, true, true, true, true, true, false, false, false] rfl rfl rfl rfl HT_.out (by kernel_rfl) (by decide) (by decide) (fun K hK => ?_) (fun K hK => ?_)
          · refine value_ (v := .slice (some ⟨wD.heap.size, 0, none⟩) 1 1) (w1 := wD.alloc (.cells #[.int .i64 u0] 3)) (by rfl) rfl (by go_simp) ?_
            have hb6 := below_alloc (Below.refl wD.heap.size wD) (.cells #[.int .i64 u0] 3)
            have hbw6 := HBD.out.trans (hb6.mono HBD.out.size)
            refine hK.out _ _ (And.intro (pw_cell_below hbw6 HT0.out.1) (pw_cell_below hbw6 HT0.out.2)) (fun _ => ?_)
            clear hK K
            refine norm_ (a' := ?_) ?_ ?_
            rotate_left
            · show Act.put _ (some 201) _ = _
              simp only [Act.put, List.setIfInBounds_toArray, List.set_cons_zero, List.set_cons_succ, i64_w, i32_w]
              rfl
            refine two_ (i := 13) (j := 26) (Ni := some 202) (Nj := some 215) #[true, true, true, true, true, true, true, true, true, true, true, true, true, true, true, true, true, true, true, true, true, true, true, true, true, true, false, false, false, false] #[true, true, true, true, true, true, true, true, true, true, true, true, true, false, true, true, true, true, true, true, true, true, true, true, true, true, true, false, false, false] rfl rfl rfl rfl HT_.out (by kernel_rfl) (by decide) (by decide) (fun K hK => ?_) (fun K hK => ?_)
            · refine step_append_OwnI (by rfl) 22 und22 (.tmp 189) (.tmp 201) rfl wL.heap.size vl (U.take i) [u0] rfl (HO.out.1.below hb6) ⟨wD.heap.size, 0, none⟩ 1 1 rfl rfl (one_cell wD u0 3) (by have := HLL.out; omega) hbw6.size ?_
              intro v1 w3 hO1 hb1 hg1 ho1
              have hbw3 := hbw6.trans hb1
              have hh3 : OwnI w3 wL.heap.size vh (V.take i) := (HO.out.2.1.below hb6).grown hg1 (fun k hk e => (dist_sym HO.out.2.2) k hk e)
              have hd3 := dist_app HO.out.2.2 ho1 (fun k hk => by have := (HO.out.2.1.lt k hk).2; rw [size1]; omega)
              refine hK.out _ _ (And.intro (pw_cell_below hbw3 HT0.out.1) (pw_cell_below hbw3 HT0.out.2)) (fun _ => ?_)
              clear hK K
              refine norm_ (a' := ?_) ?_ ?_
              rotate_left
              · show Act.put _ (some 202) _ = _
                simp only [Act.put, List.setIfInBounds_toArray, List.set_cons_zero, List.set_cons_succ, i64_w, i32_w]
                rfl
              refine one_ (i := 26) (N := some 215) #[true, true, true, true, true, true, true, true, true, true, true, true, true, true, true, true, true, true, true, true, true, true, true, true, true, true, true, false, false, false] rfl rfl (one_of HT_.out (by kernel_rfl)) (by decide) (fun K hK => ?_)
              refine value_ (v := .slice (some ⟨w3.heap.size, 0, none⟩) 1 1) (w1 := w3.alloc (.cells #[.int .i64 u1] 3)) (by rfl) rfl (by go_simp) ?_
              have hb14 := below_alloc (Below.refl w3.heap.size w3) (.cells #[.int .i64 u1] 3)
              have hbw14 := hbw3.trans (hb14.mono hbw3.size)
              refine hK.out _ _ (And.intro (pw_cell_below hbw14 HT0.out.1) (pw_cell_below hbw14 HT0.out.2)) (fun _ => ?_)
              clear hK K
              refine norm_ (a' := ?_) ?_ ?_
              rotate_left
              · show Act.put _ (some 215) _ = _
                simp only [Act.put, List.setIfInBounds_toArray, List.set_cons_zero, List.set_cons_succ, i64_w, i32_w]
                rfl
              refine one_ (i := 27) (N := some 216) #[true, true, true, true, true, true, true, true, true, true, true, true, true, true, true, true, true, true, true, true, true, true, true, true, true, true, true, true, false, false] rfl rfl (one_of HT_.out (by kernel_rfl)) (by decide) (fun K hK => ?_)
              refine step_append_OwnI (by rfl) 22 und22 (.tmp 203) (.tmp 215) rfl wL.heap.size vh (V.take i) [u1] rfl (hh3.below hb14) ⟨w3.heap.size, 0, none⟩ 1 1 rfl rfl (one_cell w3 u1 3) (by have := HLL.out; omega) hbw14.size ?_
              intro v2 w5 hO2 hb2 hg2 ho2
              have hbw5 := hbw14.trans hb2
              have hl5 : OwnI w5 wL.heap.size v1 ((U.take i) ++ [u0]) := (hO1.below hb14).grown hg2 (fun k hk e => hd3 k hk e)
              have hd5 := dist_sym (dist_app (dist_sym hd3) ho2 (fun k hk => by have := (hO1.lt k hk).2; rw [size1]; omega))
              have HF := Aside0.mk (And.intro hl5 (And.intro hO2 (And.intro hd5 hbw5)))
              clear hO1 hb1 hg1 ho1 hh3 hd3 hb14 hO2 hb2 hg2 ho2 hl5 hd5 hb6 hbw6 hbw3 hbw14
              refine hK.out _ _ (And.intro (pw_cell_below hbw5 HT0.out.1) (pw_cell_below hbw5 HT0.out.2)) (fun _ => ?_)
              clear hK K
              refine norm_ (a' := ?_) ?_ ?_
              rotate_left
              · show Act.put _ (some 216) _ = _
                simp only [Act.put, List.setIfInBounds_toArray, List.set_cons_zero, List.set_cons_succ, i64_w, i32_w]
                rfl
              clear hbw5
              refine pure_ (i := 28) (N := some 32) (v := ?_) (a' := ?_) #[true, true, true, true, true, true, true, true, true, true, true, true, true, true, true, true, true, true, true, true, true, true, true, true, true, true, true, true, true, false] rfl rfl (any_of HT_.out (by kernel_rfl)) (fun _ _ _ h => h) (Or.inl ⟨by rfl, ?_⟩) ?_ ?_
              rotate_left
              · intro w'
                go_simp
                with_reducible rfl
              rotate_left
              · simp only [Act.put, List.setIfInBounds_toArray, List.set_cons_zero, List.set_cons_succ, i64_w, i32_w]
                rfl
              refine pure_ (i := 29) (N := some 33) (v := ?_) (a' := ?_) #[true, true, true, true, true, true, true, true, true, true, true, true, true, true, true, true, true, true, true, true, true, true, true, true, true, true, true, true, true, true] rfl rfl (any_of HT_.out (by kernel_rfl)) (fun _ _ _ h => h) (Or.inl ⟨by rfl, ?_⟩) ?_ ?_
              rotate_left
              · intro w'
                go_simp
                with_reducible rfl
              rotate_left
              · simp only [Act.put, List.setIfInBounds_toArray, List.set_cons_zero, List.set_cons_succ, i64_w, i32_w]
                rfl
              refine done_ (done_of HT_.out (by kernel_rfl)) ?_
              clear HT_ HW_ hHeld hH0
              go_wp2
              refine ⟨⟨i + 1, v1, v2, rfl, rfl, (by first | exact congrArg _ (wrap_up i (by have := HN.out; have := n1; omega)) | rfl), ⟨n1⟩, ⟨HE1.out ▸ HF.out.1⟩, ⟨HE2.out ▸ HF.out.2.1⟩, ⟨HF.out.2.2.1⟩, ⟨HF.out.2.2.2⟩⟩, ?_⟩
              first | (rw [wrap_up i (by have := HN.out; have := n1; omega)]; exact meas_up n i n1) | exact meas_up n i n1
            · refine value_ (v := .slice (some ⟨(wD.alloc (.cells #[.int .i64 u0] 3)).heap.size, 0, none⟩) 1 1) (w1 := (wD.alloc (.cells #[.int .i64 u0] 3)).alloc (.cells #[.int .i64 u1] 3)) (by rfl) rfl (by first | (go_simp; done) | (go_simp; rfl)) ?_
              have hb14 := below_alloc (Below.refl (wD.alloc (.cells #[.int .i64 u0] 3)).heap.size _) (.cells #[.int .i64 u1] 3)
              have hbw14 := hbw6.trans (hb14.mono hbw6.size)
              have hc6 := fun j u hu => pw_cell_below hb14 (one_cell wD u0 3 j u hu)
              have hc14 := one_cell (wD.alloc (.cells #[.int .i64 u0] 3)) u1 3
              have hx := (HO.out.1.below hb6).below hb14
              have hy := (HO.out.2.1.below hb6).below hb14
              refine hK.out _ _ (And.intro (pw_cell_below hbw14 HT0.out.1) (pw_cell_below hbw14 HT0.out.2)) (fun _ => ?_)
              clear hK K
              refine norm_ (a' := ?_) ?_ ?_
              rotate_left
              · show Act.put _ (some 215) _ = _
                simp only [Act.put, List.setIfInBounds_toArray, List.set_cons_zero, List.set_cons_succ, i64_w, i32_w]
                rfl
              refine one_ (i := 13) (N := some 202) #[true, true, true, true, true, true, true, true, true, true, true, true, true, true, true, true, true, true, true, true, true, true, true, true, true, true, true, false, false, false] rfl rfl (one_of HT_.out (by kernel_rfl)) (by decide) (fun K hK => ?_)
              refine step_append_OwnI (by rfl) 22 und22 (.tmp 189) (.tmp 201) rfl wL.heap.size vl (U.take i) [u0] rfl hx ⟨wD.heap.size, 0, none⟩ 1 1 rfl rfl hc6 (by have := HLL.out; omega) hbw14.size ?_
              intro v1 w3 hO1 hb1 hg1 ho1
              have hbw3 := hbw14.trans hb1
              have hh3 : OwnI w3 wL.heap.size vh (V.take i) := hy.grown hg1 (fun k hk e => (dist_sym HO.out.2.2) k hk e)
              have hd3 := dist_app HO.out.2.2 ho1 (fun k hk => by have := (HO.out.2.1.lt k hk).2; rw [size1, size1]; omega)
              have hc3 := fun j u hu => cell_grown hg1 (hc14 j u hu) (fun e => by rw [add_blk] at e; have := (HO.out.1.lt _ e.symm).2; simp only [size1] at this; omega)
              refine hK.out _ _ (And.intro (pw_cell_below hbw3 HT0.out.1) (pw_cell_below hbw3 HT0.out.2)) (fun _ => ?_)
              clear hK K
              refine norm_ (a' := ?_) ?_ ?_
              rotate_left
              · show Act.put _ (some 202) _ = _
                simp only [Act.put, List.setIfInBounds_toArray, List.set_cons_zero, List.set_cons_succ, i64_w, i32_w]
                rfl
              refine one_ (i := 27) (N := some 216) #[true, true, true, true, true, true, true, true, true, true, true, true, true, true, true, true, true, true, true, true, true, true, true, true, true, true, true, true, false, false] rfl rfl (one_of HT_.out (by kernel_rfl)) (by decide) (fun K hK => ?_)
              refine step_append_OwnI (by rfl) 22 und22 (.tmp 203) (.tmp 215) rfl wL.heap.size vh (V.take i) [u1] rfl hh3 ⟨(wD.alloc (.cells #[.int .i64 u0] 3)).heap.size, 0, none⟩ 1 1 rfl rfl hc3 (by have := HLL.out; omega) hbw3.size ?_
              intro v2 w5 hO2 hb2 hg2 ho2
              have hbw5 := hbw3.trans hb2
              have hl5 : OwnI w5 wL.heap.size v1 ((U.take i) ++ [u0]) := hO1.grown hg2 (fun k hk e => hd3 k hk e)
              have hd5 := dist_sym (dist_app (dist_sym hd3) ho2 (fun k hk => (hO1.lt k hk).2))
              have HF := Aside0.mk (And.intro hl5 (And.intro hO2 (And.intro hd5 hbw5)))
              clear hO1 hb1 hg1 ho1 hh3 hd3 hb14 hO2 hb2 hg2 ho2 hl5 hd5 hb6 hbw6 hbw3 hbw14 hc6 hc14 hx hy hc3
              refine hK.out _ _ (And.intro (pw_cell_below hbw5 HT0.out.1) (pw_cell_below hbw5 HT0.out.2)) (fun _ => ?_)
              clear hK K
              refine norm_ (a' := ?_) ?_ ?_
              rotate_left
              · show Act.put _ (some 216) _ = _
                simp only [Act.put, List.setIfInBounds_toArray, List.set_cons_zero, List.set_cons_succ, i64_w, i32_w]
                rfl
              clear hbw5
              refine pure_ (i := 28) (N := some 32) (v := ?_) (a' := ?_) #[true, true, true, true, true, true, true, true, true, true, true, true, true, true, true, true, true, true, true, true, true, true, true, true, true, true, true, true, true, false] rfl rfl (any_of HT_.out (by kernel_rfl)) (fun _ _ _ h => h) (Or.inl ⟨by rfl, ?_⟩) ?_ ?_
              rotate_left
              · intro w'
                go_simp
                with_reducible rfl
              rotate_left
              · simp only [Act.put, List.setIfInBounds_toArray, List.set_cons_zero, List.set_cons_succ, i64_w, i32_w]
                rfl
              refine pure_ (i := 29) (N := some 33) (v := ?_) (a' := ?_) #[true, true, true, true, true, true, true, true, true, true, true, true, true, true, true, true, true, true, true, true, true, true, true, true, true, true, true, true, true, true] rfl rfl (any_of HT_.out (by kernel_rfl)) (fun _ _ _ h => h) (Or.inl ⟨by rfl, ?_⟩) ?_ ?_
              rotate_left
              · intro w'
                go_simp
                with_reducible rfl
              rotate_left
              · simp only [Act.put, List.setIfInBounds_toArray, List.set_cons_zero, List.set_cons_succ, i64_w, i32_w]
                rfl
              refine done_ (done_of HT_.out (by kernel_rfl)) ?_
              clear HT_ HW_ hHeld hH0
              go_wp2
              refine ⟨⟨i + 1, v1, v2, rfl, rfl, (by first | exact congrArg _ (wrap_up i (by have := HN.out; have := n1; omega)) | rfl), ⟨n1⟩, ⟨HE1.out ▸ HF.out.1⟩, ⟨HE2.out ▸ HF.out.2.1⟩, ⟨HF.out.2.2.1⟩, ⟨HF.out.2.2.2⟩⟩, ?_⟩
              first | (rw [wrap_up i (by have := HN.out; have := n1; omega)]; exact meas_up n i n1) | exact meas_up n i n1
          · refine value_ (v := .slice (some ⟨wD.heap.size, 0, none⟩) 1 1) (w1 := wD.alloc (.cells #[.int .i64 u1] 3)) (by rfl) rfl (by go_simp) ?_
            have hb14 := below_alloc (Below.refl wD.heap.size wD) (.cells #[.int .i64 u1] 3)
            have hbw14 := HBD.out.trans (hb14.mono HBD.out.size)
            have hc14 := one_cell wD u1 3
            refine hK.out _ _ (And.intro (pw_cell_below hbw14 HT0.out.1) (pw_cell_below hbw14 HT0.out.2)) (fun _ => ?_)
            clear hK K
            refine norm_ (a' := ?_) ?_ ?_
            rotate_left
            · show Act.put _ (some 215) _ = _
              simp only [Act.put, List.setIfInBounds_toArray, List.set_cons_zero, List.set_cons_succ, i64_w, i32_w]
              rfl
            refine one_ (i := 12) (N := some 201) #[true, true, true, true, true, true, true, true, true, true, true, true, true, false, true, true, true, true, true, true, true, true, true, true, true, true, true, false, false, false] rfl rfl (one_of HT_.out (by kernel_rfl)) (by decide) (fun K hK => ?_)
            refine value_ (v := .slice (some ⟨(wD.alloc (.cells #[.int .i64 u1] 3)).heap.size, 0, none⟩) 1 1) (w1 := (wD.alloc (.cells #[.int .i64 u1] 3)).alloc (.cells #[.int .i64 u0] 3)) (by rfl) rfl (by first | (go_simp; done) | (go_simp; rfl)) ?_
            have hb6 := below_alloc (Below.refl (wD.alloc (.cells #[.int .i64 u1] 3)).heap.size _) (.cells #[.int .i64 u0] 3)
            have hbw6 := hbw14.trans (hb6.mono hbw14.size)
            have hc6 := one_cell (wD.alloc (.cells #[.int .i64 u1] 3)) u0 3
            have hc14b := fun j u hu => pw_cell_below hb6 (hc14 j u hu)
            have hx := (HO.out.1.below hb14).below hb6
            have hy := (HO.out.2.1.below hb14).below hb6
            refine hK.out _ _ (And.intro (pw_cell_below hbw6 HT0.out.1) (pw_cell_below hbw6 HT0.out.2)) (fun _ => ?_)
            clear hK K
            refine norm_ (a' := ?_) ?_ ?_
            rotate_left
            · show Act.put _ (some 201) _ = _
              simp only [Act.put, List.setIfInBounds_toArray, List.set_cons_zero, List.set_cons_succ, i64_w, i32_w]
              rfl
            refine one_ (i := 13) (N := some 202) #[true, true, true, true, true, true, true, true, true, true, true, true, true, true, true, true, true, true, true, true, true, true, true, true, true, true, true, false, false, false] rfl rfl (one_of HT_.out (by kernel_rfl)) (by decide) (fun K hK => ?_)
            refine step_append_OwnI (by rfl) 22 und22 (.tmp 189) (.tmp 201) rfl wL.heap.size vl (U.take i) [u0] rfl hx ⟨(wD.alloc (.cells #[.int .i64 u1] 3)).heap.size, 0, none⟩ 1 1 rfl rfl hc6 (by have := HLL.out; omega) hbw6.size ?_
            intro v1 w3 hO1 hb1 hg1 ho1
            have hbw3 := hbw6.trans hb1
            have hh3 : OwnI w3 wL.heap.size vh (V.take i) := hy.grown hg1 (fun k hk e => (dist_sym HO.out.2.2) k hk e)
            have hd3 := dist_app HO.out.2.2 ho1 (fun k hk => by have := (HO.out.2.1.lt k hk).2; rw [size1, size1]; omega)
            have hc3 := fun j u hu => cell_grown hg1 (hc14b j u hu) (fun e => by rw [add_blk] at e; have := (HO.out.1.lt _ e.symm).2; simp only [size1] at this; omega)
            refine hK.out _ _ (And.intro (pw_cell_below hbw3 HT0.out.1) (pw_cell_below hbw3 HT0.out.2)) (fun _ => ?_)
            clear hK K
            refine norm_ (a' := ?_) ?_ ?_
            rotate_left
            · show Act.put _ (some 202) _ = _
              simp only [Act.put, List.setIfInBounds_toArray, List.set_cons_zero, List.set_cons_succ, i64_w, i32_w]
              rfl
            refine one_ (i := 27) (N := some 216) #[true, true, true, true, true, true, true, true, true, true, true, true, true, true, true, true, true, true, true, true, true, true, true, true, true, true, true, true, false, false] rfl rfl (one_of HT_.out (by kernel_rfl)) (by decide) (fun K hK => ?_)
            refine step_append_OwnI (by rfl) 22 und22 (.tmp 203) (.tmp 215) rfl wL.heap.size vh (V.take i) [u1] rfl hh3 ⟨wD.heap.size, 0, none⟩ 1 1 rfl rfl hc3 (by have := HLL.out; omega) hbw3.size ?_
            intro v2 w5 hO2 hb2 hg2 ho2
            have hbw5 := hbw3.trans hb2
            have hl5 : OwnI w5 wL.heap.size v1 ((U.take i) ++ [u0]) := hO1.grown hg2 (fun k hk e => hd3 k hk e)
            have hd5 := dist_sym (dist_app (dist_sym hd3) ho2 (fun k hk => (hO1.lt k hk).2))
            have HF := Aside0.mk (And.intro hl5 (And.intro hO2 (And.intro hd5 hbw5)))
            clear hO1 hb1 hg1 ho1 hh3 hd3 hb14 hO2 hb2 hg2 ho2 hl5 hd5 hb6 hbw6 hbw3 hbw14 hc6 hc14 hc14b hx hy hc3
            refine hK.out _ _ (And.intro (pw_cell_below hbw5 HT0.out.1) (pw_cell_below hbw5 HT0.out.2)) (fun _ => ?_)
            clear hK K
            refine norm_ (a' := ?_) ?_ ?_
            rotate_left
            · show Act.put _ (some 216) _ = _
              simp only [Act.put, List.setIfInBounds_toArray, List.set_cons_zero, List.set_cons_succ, i64_w, i32_w]
              rfl
            clear hbw5
            refine pure_ (i := 28) (N := some 32) (v := ?_) (a' := ?_) #[true, true, true, true, true, true, true, true, true, true, true, true, true, true, true, true, true, true, true, true, true, true, true, true, true, true, true, true, true, false] rfl rfl (any_of HT_.out (by kernel_rfl)) (fun _ _ _ h => h) (Or.inl ⟨by rfl, ?_⟩) ?_ ?_
            rotate_left
            · intro w'
              go_simp
              with_reducible rfl
            rotate_left
            · simp only [Act.put, List.setIfInBounds_toArray, List.set_cons_zero, List.set_cons_succ, i64_w, i32_w]
              rfl
            refine pure_ (i := 29) (N := some 33) (v := ?_) (a' := ?_) #[true, true, true, true, true, true, true, true, true, true, true, true, true, true, true, true, true, true, true, true, true, true, true, true, true, true, true, true, true, true] rfl rfl (any_of HT_.out (by kernel_rfl)) (fun _ _ _ h => h) (Or.inl ⟨by rfl, ?_⟩) ?_ ?_
            rotate_left
            · intro w'
              go_simp
              with_reducible rfl
            rotate_left
            · simp only [Act.put, List.setIfInBounds_toArray, List.set_cons_zero, List.set_cons_succ, i64_w, i32_w]
              rfl
            refine done_ (done_of HT_.out (by kernel_rfl)) ?_
            clear HT_ HW_ hHeld hH0
            go_wp2
            refine ⟨⟨i + 1, v1, v2, rfl, rfl, (by first | exact congrArg _ (wrap_up i (by have := HN.out; have := n1; omega)) | rfl), ⟨n1⟩, ⟨HE1.out ▸ HF.out.1⟩, ⟨HE2.out ▸ HF.out.2.1⟩, ⟨HF.out.2.2.1⟩, ⟨HF.out.2.2.2⟩⟩, ?_⟩
            first | (rw [wrap_up i (by have := HN.out; have := n1; omega)]; exact meas_up n i n1) | exact meas_up n i n1
        · obtain rfl : n = i := by have := HI.out; omega
          have hd : decide ((n : Int) < (n : Int)) = false := decide_eq_false (by omega)
          clear hj
          have HBW := Aside0.mk (HBi.out.trans (HBr.out.mono HBi.out.size))
          have hol := HOL.out
          have hoh := HOH.out
          have hta : (a.take n).length = n := by rw [List.length_take]; have := HN.out.2.1; omega
          have htb : (b.take n).length = n := by rw [List.length_take]; have := HN.out.2.2.1; omega
          have lU : U.length = n := by rw [HUV.out.1, List.length_map, rotL_len, hta]
          have lV : V.length = n := by rw [HUV.out.2, List.length_map, rotL_len, htb]
          rw [List.take_of_length_le (by omega)] at hol hoh
          have hn1 : 1 ≤ n := HN.out.1.1
          obtain ⟨gU, capU, rfl, _, rU, _⟩ := R2.of_own hol (fun e => by rw [e] at lU; simp at lU; omega) (by have := HN.out; omega)
          obtain ⟨gV, capV, rfl, _, rV, _⟩ := R2.of_own hoh (fun e => by rw [e] at lV; simp at lV; omega) (by have := HN.out; omega)
          rw [lU, lV]
          have RUV := Aside0.mk (And.intro rU rV)
          have HLU := Aside0.mk (And.intro lU.symm lV.symm)
          have m1 : n ≤ a.length := HN.out.2.1
          have m2 : n ≤ b.length := HN.out.2.2.1
          have m3 : n ≤ ca := Nat.le_trans m1 CA.out.1
          have m4 : n ≤ cb := Nat.le_trans m2 CB.out.1
          have HNL := Aside0.mk (show n = (a.take n).length ∧ n = (b.take n).length ∧ (a.take n).length ≤ ca ∧ (b.take n).length ≤ cb from ⟨hta.symm, htb.symm, by omega, by omega⟩)
          obtain ⟨q0, hq0⟩ : ∃ q, q = psum (a.take n) (b.take n) := ⟨_, rfl⟩
          obtain ⟨q1, hq1⟩ : ∃ q, q = (pchance (a.take n) (b.take n)).1 := ⟨_, rfl⟩
          obtain ⟨q2, hq2⟩ : ∃ q, q = (pchance (a.take n) (b.take n)).2 := ⟨_, rfl⟩
          obtain ⟨q3, hq3⟩ : ∃ q : Int, q = -q0 := ⟨_, rfl⟩
          have hqb := psum_bd (a.take n) (b.take n) (by have := HN.out; omega)
          rw [← hq0] at hqb
          have HQ3 := Aside0.mk (show wrap64 (-q3) = q0 by rw [hq3, Int.neg_neg, w64' _ (by omega) (by omega)])
          have sa := HS.out.1.take n hn1
          have sb := HS.out.2.take n hn1
          have hpr := paired_rot (a.take n) (b.take n) y.toNat (by omega) (by omega)
          have hpf := paired_flip (a.take n) (b.take n)
          rw [← HUV.out.1, ← HUV.out.2] at hpr
          have key : ∀ (l m : List Int), SmpOK l → l.length = n → m = (rotL l y.toNat).map (fun x => 5 * x + 2) → chk m = 0 := fun l m hl hln hm => by
            refine chk_of (by rw [hm, List.length_map, rotL_len]; exact hl.1) (by rw [hm, List.length_map, rotL_len]; have := hl.2.1; omega) (fun x hx => ?_)
            rw [hm] at hx
            obtain ⟨v, hv, rfl⟩ := List.mem_map.1 hx
            have hvb := hl.2.2 v ((rotL_perm l y.toNat).subset hv)
            omega
          have hbU : bothI U V = 0 := by
            unfold bothI
            rw [if_pos (key _ U sa hta HUV.out.1), key _ V sb htb HUV.out.2]
          have HPF := Aside0.mk (show hand_Paired.f (a.take n) (b.take n) = some (q0, q1, q2, 0) ∧ hand_Paired.f U V = some (q0, q1, q2, 0) ∧ hand_Paired.f (b.take n) (a.take n) = some (q3, q1, q2, 0) by
            refine ⟨?_, ?_, ?_⟩
            · unfold hand_Paired.f; rw [if_pos (smp_both sa sb), if_pos (by omega), hq0, hq1, hq2]
            · unfold hand_Paired.f; rw [if_pos hbU, if_pos (by omega), hpr.1, hpr.2, hq0, hq1, hq2]
            · unfold hand_Paired.f; rw [if_pos (smp_both sb sa), if_pos (by omega), hpf.1, hpf.2, hq3, hq0, hq1, hq2])
          clear hol hoh hta htb lU lV hn1 rU rV hq0 hq1 hq2 hq3 hqb sa sb hpr hpf key hbU HOL HOH HDI HBr HBi HMN HUV HLN HTL CM0 CM1 CN0 CN1 HT HY HCa HCb
          go_upto_region 34 with fail
          have hbd : Below wr.heap.size wr wr.drew := below_drew (Below.refl wr.heap.size wr)
          have HBD := Aside0.mk (below_drew1 HBW.out)
          have RUD := Aside0.mk (And.intro (RUV.out.1.below hbd) (RUV.out.2.below hbd))
          clear hbd HBW RUV 
          refine start_ (n := 15) (S := fun _ => True) (ds := []) #[false, false, false, false, false, false, false, false, false, false, false, false, false, false, false] (by kernel_rfl) rfl rfl trivial (fun hHeld => ?_)
          refine with_tabW tr34_tab tr34_bits (fun HT_ HW_ => ?_)
          generalize wr.drew = wD at HBD RUD hHeld  ⊢
          refine take_ (i := 0) (N := some 218) (v := ?_) (a' := ?_) #[true, false, false, false, false, false, false, false, false, false, false, false, false, false, false] rfl rfl (take_ofW HT_.out HW_.out (by kernel_rfl)) (fun _ _ _ h => h) (Or.inl ⟨by rfl, ?_⟩) hHeld ?_ ?_
          rotate_left
          · rintro w' _
            go_simp
            with_reducible rfl
          rotate_left
          · simp only [Act.put, List.setIfInBounds_toArray, List.set_cons_zero, List.set_cons_succ, i64_w, i32_w]
            rfl
          refine take_ (i := 1) (N := some 219) (v := ?_) (a' := ?_) #[true, true, false, false, false, false, false, false, false, false, false, false, false, false, false] rfl rfl (take_ofW HT_.out HW_.out (by kernel_rfl)) (fun _ _ _ h => h) (Or.inl ⟨by rfl, ?_⟩) hHeld ?_ ?_
          rotate_left
          · rintro w' _
            go_simp
            with_reducible rfl
          rotate_left
          · simp only [Act.put, List.setIfInBounds_toArray, List.set_cons_zero, List.set_cons_succ, i64_w, i32_w]
            rfl
          refine take_ (i := 2) (N := some 220) (v := ?_) (a' := ?_) #[true, true, true, false, false, false, false, false, false, false, false, false, false, false, false] rfl rfl (take_ofW HT_.out HW_.out (by kernel_rfl)) (fun _ _ _ h => h) (Or.inl ⟨by rfl, ?_⟩) hHeld ?_ ?_
          rotate_left
          · rintro w' _
            go_simp
            with_reducible rfl
          rotate_left
          · simp only [Act.put, List.setIfInBounds_toArray, List.set_cons_zero, List.set_cons_succ, i64_w, i32_w]
            rfl
          refine take_ (i := 3) (N := some 221) (v := ?_) (a' := ?_) #[true, true, true, true, false, false, false, false, false, false, false, false, false, false, false] rfl rfl (take_ofW HT_.out HW_.out (by kernel_rfl)) (fun _ _ _ h => h) (Or.inl ⟨by rfl, ?_⟩) hHeld ?_ ?_
          rotate_left
          · rintro w' _
            go_simp
            with_reducible rfl
          rotate_left
          · simp only [Act.put, List.setIfInBounds_toArray, List.set_cons_zero, List.set_cons_succ, i64_w, i32_w]
            rfl
          refine take_ (i := 4) (N := some 222) (v := ?_) (a' := ?_) #[true, true, true, true, true, false, false, false, false, false, false, false, false, false, false] rfl rfl (take_ofW HT_.out HW_.out (by kernel_rfl)) (fun _ _ _ h => h) (Or.inl ⟨by rfl, ?_⟩) hHeld ?_ ?_
          rotate_left
          · rintro w' _
            go_simp
            with_reducible rfl
          rotate_left
          · simp only [Act.put, List.setIfInBounds_toArray, List.set_cons_zero, List.set_cons_succ, i64_w, i32_w]
            rfl
          refine take_ (i := 5) (N := some 223) (v := ?_) (a' := ?_) #[true, true, true, true, true, true, false, false, false, false, false, false, false, false, false] rfl rfl (take_ofW HT_.out HW_.out (by kernel_rfl)) (fun _ _ _ h => h) (Or.inl ⟨by rfl, ?_⟩) hHeld ?_ ?_
          rotate_left
          · rintro w' _
            go_simp
            with_reducible rfl
          rotate_left
          · simp only [Act.put, List.setIfInBounds_toArray, List.set_cons_zero, List.set_cons_succ, i64_w, i32_w]
            rfl
          refine two_ (i := 6) (j := 11) (Ni := some 224) (Nj := some 36) #[true, true, true, true, true, true, true, false, false, false, false, false, false, false, false] #[true, true, true, true, true, true, false, false, false, false, false, true, false, false, false] rfl rfl rfl rfl HT_.out (by kernel_rfl) (by decide) (by decide) (fun K hK => ?_) (fun K hK => ?_)
          · refine goes_ Try.func26 (by kernel_rfl) rfl #[.slice (some ada) n ca, .slice (some adb) n cb] (by rfl) rfl rfl (by (try simp only [List.map_toArray, List.map_cons, List.map_nil]); first | done | rfl) ?_
            refine (paired_n (some ada) ca n (a.take n) (some adb) cb n (b.take n) q0 q1 q2 0 _ HNL.out.1 HNL.out.2.1 (Kd.C_below (C_take CA.out.2 n) (HBD.out)) HNL.out.2.2.1 (Kd.C_below (C_take CB.out.2 n) (HBD.out)) HNL.out.2.2.2 HPF.out.1).mono ?_
            rintro e wE ⟨rfl, hb⟩
            refine ⟨_, rfl, ?_⟩
            have HBE := Aside0.mk (HBD.out.trans (hb.mono HBD.out.size))
            have RUE := Aside0.mk (And.intro (RUD.out.1.below hb) (RUD.out.2.below hb))
            clear hb HBD RUD 
            refine hK.out _ _ trivial (fun _ => ?_)
            clear hK K
            refine norm_ (a' := ?_) ?_ ?_
            rotate_left
            · show Act.put _ (some 224) _ = _
              simp only [Act.put, List.setIfInBounds_toArray, List.set_cons_zero, List.set_cons_succ, i64_w, i32_w]
              rfl
            refine take_ (i := 7) (N := some 217) (v := ?_) (a' := ?_) #[true, true, true, true, true, true, true, true, false, false, false, false, false, false, false] rfl rfl (take_ofW HT_.out HW_.out (by kernel_rfl)) (fun _ _ _ h => h) (Or.inl ⟨by rfl, ?_⟩) hHeld ?_ ?_
            rotate_left
            · rintro w' _
              go_simp
              with_reducible rfl
            rotate_left
            · simp only [Act.put, List.setIfInBounds_toArray, List.set_cons_zero, List.set_cons_succ, i64_w, i32_w]
              rfl
            refine take_ (i := 8) (N := some 225) (v := ?_) (a' := ?_) #[true, true, true, true, true, true, true, true, true, false, false, false, false, false, false] rfl rfl (take_ofW HT_.out HW_.out (by kernel_rfl)) (fun _ _ _ h => h) (Or.inl ⟨by rfl, ?_⟩) hHeld ?_ ?_
            rotate_left
            · rintro w' _
              go_simp
              with_reducible rfl
            rotate_left
            · simp only [Act.put, List.setIfInBounds_toArray, List.set_cons_zero, List.set_cons_succ, i64_w, i32_w]
              rfl
            refine take_ (i := 9) (N := some 226) (v := ?_) (a' := ?_) #[true, true, true, true, true, true, true, true, true, true, false, false, false, false, false] rfl rfl (take_ofW HT_.out HW_.out (by kernel_rfl)) (fun _ _ _ h => h) (Or.inl ⟨by rfl, ?_⟩) hHeld ?_ ?_
            rotate_left
            · rintro w' _
              go_simp
              with_reducible rfl
            rotate_left
            · simp only [Act.put, List.setIfInBounds_toArray, List.set_cons_zero, List.set_cons_succ, i64_w, i32_w]
              rfl
            refine take_ (i := 10) (N := some 227) (v := ?_) (a' := ?_) #[true, true, true, true, true, true, true, true, true, true, true, false, false, false, false] rfl rfl (take_ofW HT_.out HW_.out (by kernel_rfl)) (fun _ _ _ h => h) (Or.inl ⟨by rfl, ?_⟩) hHeld ?_ ?_
            rotate_left
            · rintro w' _
              go_simp
              with_reducible rfl
            rotate_left
            · simp only [Act.put, List.setIfInBounds_toArray, List.set_cons_zero, List.set_cons_succ, i64_w, i32_w]
              rfl
            refine one_ (i := 11) (N := some 36) #[true, true, true, true, true, true, true, true, true, true, true, true, false, false, false] rfl rfl (one_of HT_.out (by kernel_rfl)) (by decide) (fun K hK => ?_)
            refine value_ (v := .pointer (some ⟨wE.heap.size, 0, none⟩)) (w1 := wE.alloc (.cells #[.int .i64 0, .int .i64 0] 34)) (by rfl) rfl (by first | (go_simp; done) | (go_simp; rfl)) ?_
            have kz := blk_new wE (.cells #[.int .i64 0, .int .i64 0] 34)
            have hbz := below_alloc (Below.refl wE.heap.size wE) (.cells #[.int .i64 0, .int .i64 0] 34)
            refine hK.out _ _ trivial (fun _ => ?_)
            clear hK K
            refine norm_ (a' := ?_) ?_ ?_
            rotate_left
            · show Act.put _ (some 36) _ = _
              simp only [Act.put, List.setIfInBounds_toArray, List.set_cons_zero, List.set_cons_succ, i64_w, i32_w]
              rfl
            generalize wE.alloc (.cells #[.int .i64 0, .int .i64 0] 34) = wZ at kz hbz ⊢
            obtain ⟨g36, hg_⟩ : ∃ g, g = wE.heap.size := ⟨_, rfl⟩
            rw [← hg_] at kz ⊢
            have hle : wE.heap.size ≤ g36 := by rw [hg_]; exact Nat.le_refl _
            clear hg_
            have s0 := (blk_cell kz 0).trans rfl
            have s1 := (blk_cell kz 1).trans rfl
            have f0 := blk_frozen kz 0
            have f1 := blk_frozen kz 1
            refine pure_ (i := 12) (N := some 35) (v := ?_) (a' := ?_) #[true, true, true, true, true, true, true, true, true, true, true, true, true, false, false] rfl rfl (any_of HT_.out (by kernel_rfl)) (fun _ _ _ h => h) (Or.inl ⟨by rfl, ?_⟩) ?_ ?_
            rotate_left
            · intro w'
              go_simp
              with_reducible rfl
            rotate_left
            · simp only [Act.put, List.setIfInBounds_toArray, List.set_cons_zero, List.set_cons_succ, i64_w, i32_w]
              rfl
            refine one_ (i := 13) (N := none) #[true, true, true, true, true, true, true, true, true, true, true, true, true, true, false] rfl rfl (one_of HT_.out (by kernel_rfl)) (by decide) (fun K hK => ?_)
            refine store_step (by rfl) rfl (w1 := ((wZ.setCell ⟨g36, 0, none⟩ (.int .i64 q1)).setCell ⟨g36, 1, none⟩ (.int .i64 q2))) ?hr ?_
            (case hr => first | (go_simp; done) | (go_simp; rfl))
            clear s0 s1 f0 f1
            have kq : ((wZ.setCell ⟨g36, 0, none⟩ (.int .i64 q1)).setCell ⟨g36, 1, none⟩ (.int .i64 q2)).heap[g36]? = some (.cells #[.int .i64 q1, .int .i64 q2] 34 (0, 0)) := by refine blk_put (cs := #[.int .i64 q1, .int .i64 0]) ?_ 1 _ rfl; refine blk_put (cs := #[.int .i64 0, .int .i64 0]) ?_ 0 _ rfl; exact kz
            have hbx := below_set (g := g36) (j := 1) (v := .int .i64 q2) (below_set (g := g36) (j := 0) (v := .int .i64 q1) hbz hle) hle
            have HBX := Aside0.mk (HBE.out.trans (hbx.mono HBE.out.size))
            have RUX := Aside0.mk (And.intro (RUE.out.1.below hbx) (RUE.out.2.below hbx))
            have Kg36X := Aside0.mk kq
            clear kq hbx kz hbz hle HBE RUE 
            generalize ((wZ.setCell ⟨g36, 0, none⟩ (.int .i64 q1)).setCell ⟨g36, 1, none⟩ (.int .i64 q2)) = wX at HBX RUX Kg36X  ⊢
            refine hK.out _ _ trivial (fun _ => ?_)
            clear hK K
            refine pure_ (i := 14) (N := some 21) (v := ?_) (a' := ?_) #[true, true, true, true, true, true, true, true, true, true, true, true, true, true, true] rfl rfl (any_of HT_.out (by kernel_rfl)) (fun _ _ _ h => h) (Or.inl ⟨by rfl, ?_⟩) ?_ ?_
            rotate_left
            · intro w'
              go_simp
              with_reducible rfl
            rotate_left
            · simp only [Act.put, List.setIfInBounds_toArray, List.set_cons_zero, List.set_cons_succ, i64_w, i32_w]
              rfl
            refine done_ (done_of HT_.out (by kernel_rfl)) ?_
            clear HT_ HW_ hHeld
            have HBW := HBX
            have RUV := RUX
            have Kg36 := Kg36X
            clear HBX RUX Kg36X 
            obtain ⟨wr, hwr⟩ : ∃ W : World, W = wX := ⟨_, rfl⟩
            subst hwr
            go_wp2_with fail
            refine (paired_n (some ⟨gU, 0, none⟩) capU n U (some ⟨gV, 0, none⟩) capV n V q0 q1 q2 0 _ HLU.out.1 HLU.out.2 RUV.out.1.C RUV.out.1.le.1 RUV.out.2.C RUV.out.2.le.1 HPF.out.2.1).mono ?_
            rintro e w8 ⟨rfl, hb⟩
            obtain ⟨g38, hg38⟩ : ∃ g, g = w8.heap.size := ⟨_, rfl⟩
            have hbz := below_then hb hb.size (below_alloc (Below.refl w8.heap.size w8) (.cells #[.int .i64 q1, .int .i64 q2] 34))
            have k38 := blk_new w8 (.cells #[.int .i64 q1, .int .i64 q2] 34)
            rw [← hg38] at k38
            have HBX := Aside0.mk (HBW.out.trans (hbz.mono HBW.out.size))
            have RUX := Aside0.mk (And.intro (RUV.out.1.below hbz) (RUV.out.2.below hbz))
            have Kg36X := Aside0.mk (blk_below2 hbz Kg36.out)
            have Kg38 := Aside0.mk k38
            clear hb hbz k38 HBW RUV Kg36
            have HBW := HBX
            have RUV := RUX
            have Kg36 := Kg36X
            clear HBX RUX Kg36X
            go_upto_region 36 with fail
            rw [← hg38]
            clear hg38
            generalize w8.alloc (.cells #[.int .i64 q1, .int .i64 q2] 34) = wr at HBW RUV Kg36 Kg38 ⊢
            have hbd : Below wr.heap.size wr wr.drew := below_drew (Below.refl wr.heap.size wr)
            have HBD := Aside0.mk (below_drew1 HBW.out)
            have RUD := Aside0.mk (And.intro (RUV.out.1.below hbd) (RUV.out.2.below hbd))
            have Kg36D := Aside0.mk (blk_below2 hbd Kg36.out)
            have Kg38D := Aside0.mk (blk_below2 hbd Kg38.out)
            clear hbd HBW RUV Kg36 Kg38
            refine start_ (n := 15) (S := fun _ => True) (ds := []) #[false, false, false, false, false, false, false, false, false, false, false, false, false, false, false] (by kernel_rfl) rfl rfl trivial (fun hHeld => ?_)
            refine with_tabW tr36_tab tr36_bits (fun HT_ HW_ => ?_)
            generalize wr.drew = wD at HBD RUD hHeld Kg36D Kg38D ⊢
            refine take_ (i := 0) (N := some 236) (v := ?_) (a' := ?_) #[true, false, false, false, false, false, false, false, false, false, false, false, false, false, false] rfl rfl (take_ofW HT_.out HW_.out (by kernel_rfl)) (fun _ _ _ h => h) (Or.inl ⟨by rfl, ?_⟩) hHeld ?_ ?_
            rotate_left
            · rintro w' _
              go_simp
              with_reducible rfl
            rotate_left
            · simp only [Act.put, List.setIfInBounds_toArray, List.set_cons_zero, List.set_cons_succ, i64_w, i32_w]
              rfl
            refine take_ (i := 1) (N := some 237) (v := ?_) (a' := ?_) #[true, true, false, false, false, false, false, false, false, false, false, false, false, false, false] rfl rfl (take_ofW HT_.out HW_.out (by kernel_rfl)) (fun _ _ _ h => h) (Or.inl ⟨by rfl, ?_⟩) hHeld ?_ ?_
            rotate_left
            · rintro w' _
              go_simp
              with_reducible rfl
            rotate_left
            · simp only [Act.put, List.setIfInBounds_toArray, List.set_cons_zero, List.set_cons_succ, i64_w, i32_w]
              rfl
            refine take_ (i := 2) (N := some 238) (v := ?_) (a' := ?_) #[true, true, true, false, false, false, false, false, false, false, false, false, false, false, false] rfl rfl (take_ofW HT_.out HW_.out (by kernel_rfl)) (fun _ _ _ h => h) (Or.inl ⟨by rfl, ?_⟩) hHeld ?_ ?_
            rotate_left
            · rintro w' _
              go_simp
              with_reducible rfl
            rotate_left
            · simp only [Act.put, List.setIfInBounds_toArray, List.set_cons_zero, List.set_cons_succ, i64_w, i32_w]
              rfl
            refine take_ (i := 3) (N := some 239) (v := ?_) (a' := ?_) #[true, true, true, true, false, false, false, false, false, false, false, false, false, false, false] rfl rfl (take_ofW HT_.out HW_.out (by kernel_rfl)) (fun _ _ _ h => h) (Or.inl ⟨by rfl, ?_⟩) hHeld ?_ ?_
            rotate_left
            · rintro w' _
              go_simp
              with_reducible rfl
            rotate_left
            · simp only [Act.put, List.setIfInBounds_toArray, List.set_cons_zero, List.set_cons_succ, i64_w, i32_w]
              rfl
            refine take_ (i := 4) (N := some 240) (v := ?_) (a' := ?_) #[true, true, true, true, true, false, false, false, false, false, false, false, false, false, false] rfl rfl (take_ofW HT_.out HW_.out (by kernel_rfl)) (fun _ _ _ h => h) (Or.inl ⟨by rfl, ?_⟩) hHeld ?_ ?_
            rotate_left
            · rintro w' _
              go_simp
              with_reducible rfl
            rotate_left
            · simp only [Act.put, List.setIfInBounds_toArray, List.set_cons_zero, List.set_cons_succ, i64_w, i32_w]
              rfl
            refine take_ (i := 5) (N := some 241) (v := ?_) (a' := ?_) #[true, true, true, true, true, true, false, false, false, false, false, false, false, false, false] rfl rfl (take_ofW HT_.out HW_.out (by kernel_rfl)) (fun _ _ _ h => h) (Or.inl ⟨by rfl, ?_⟩) hHeld ?_ ?_
            rotate_left
            · rintro w' _
              go_simp
              with_reducible rfl
            rotate_left
            · simp only [Act.put, List.setIfInBounds_toArray, List.set_cons_zero, List.set_cons_succ, i64_w, i32_w]
              rfl
            refine two_ (i := 6) (j := 11) (Ni := some 242) (Nj := some 40) #[true, true, true, true, true, true, true, false, false, false, false, false, false, false, false] #[true, true, true, true, true, true, false, false, false, false, false, true, false, false, false] rfl rfl rfl rfl HT_.out (by kernel_rfl) (by decide) (by decide) (fun K hK => ?_) (fun K hK => ?_)
            · refine goes_ Try.func26 (by kernel_rfl) rfl #[.slice (some adb) n cb, .slice (some ada) n ca] (by rfl) rfl rfl (by (try simp only [List.map_toArray, List.map_cons, List.map_nil]); first | done | rfl) ?_
              refine (paired_n (some adb) cb n (b.take n) (some ada) ca n (a.take n) q3 q1 q2 0 _ HNL.out.2.1 HNL.out.1 (Kd.C_below (C_take CB.out.2 n) (HBD.out)) HNL.out.2.2.2 (Kd.C_below (C_take CA.out.2 n) (HBD.out)) HNL.out.2.2.1 HPF.out.2.2).mono ?_
              rintro e wE ⟨rfl, hb⟩
              refine ⟨_, rfl, ?_⟩
              have HBE := Aside0.mk (HBD.out.trans (hb.mono HBD.out.size))
              have RUE := Aside0.mk (And.intro (RUD.out.1.below hb) (RUD.out.2.below hb))
              have Kg36E := Aside0.mk (blk_below2 hb Kg36D.out)
              have Kg38E := Aside0.mk (blk_below2 hb Kg38D.out)
              clear hb HBD RUD Kg36D Kg38D
              refine hK.out _ _ trivial (fun _ => ?_)
              clear hK K
              refine norm_ (a' := ?_) ?_ ?_
              rotate_left
              · show Act.put _ (some 242) _ = _
                simp only [Act.put, List.setIfInBounds_toArray, List.set_cons_zero, List.set_cons_succ, i64_w, i32_w]
                rfl
              refine take_ (i := 7) (N := some 235) (v := ?_) (a' := ?_) #[true, true, true, true, true, true, true, true, false, false, false, false, false, false, false] rfl rfl (take_ofW HT_.out HW_.out (by kernel_rfl)) (fun _ _ _ h => h) (Or.inl ⟨by rfl, ?_⟩) hHeld ?_ ?_
              rotate_left
              · rintro w' _
                go_simp
                with_reducible rfl
              rotate_left
              · simp only [Act.put, List.setIfInBounds_toArray, List.set_cons_zero, List.set_cons_succ, i64_w, i32_w]
                rfl
              refine take_ (i := 8) (N := some 243) (v := ?_) (a' := ?_) #[true, true, true, true, true, true, true, true, true, false, false, false, false, false, false] rfl rfl (take_ofW HT_.out HW_.out (by kernel_rfl)) (fun _ _ _ h => h) (Or.inl ⟨by rfl, ?_⟩) hHeld ?_ ?_
              rotate_left
              · rintro w' _
                go_simp
                with_reducible rfl
              rotate_left
              · simp only [Act.put, List.setIfInBounds_toArray, List.set_cons_zero, List.set_cons_succ, i64_w, i32_w]
                rfl
              refine take_ (i := 9) (N := some 244) (v := ?_) (a' := ?_) #[true, true, true, true, true, true, true, true, true, true, false, false, false, false, false] rfl rfl (take_ofW HT_.out HW_.out (by kernel_rfl)) (fun _ _ _ h => h) (Or.inl ⟨by rfl, ?_⟩) hHeld ?_ ?_
              rotate_left
              · rintro w' _
                go_simp
                with_reducible rfl
              rotate_left
              · simp only [Act.put, List.setIfInBounds_toArray, List.set_cons_zero, List.set_cons_succ, i64_w, i32_w]
                rfl
              refine take_ (i := 10) (N := some 245) (v := ?_) (a' := ?_) #[true, true, true, true, true, true, true, true, true, true, true, false, false, false, false] rfl rfl (take_ofW HT_.out HW_.out (by kernel_rfl)) (fun _ _ _ h => h) (Or.inl ⟨by rfl, ?_⟩) hHeld ?_ ?_
              rotate_left
              · rintro w' _
                go_simp
                with_reducible rfl
              rotate_left
              · simp only [Act.put, List.setIfInBounds_toArray, List.set_cons_zero, List.set_cons_succ, i64_w, i32_w]
                rfl
              refine one_ (i := 11) (N := some 40) #[true, true, true, true, true, true, true, true, true, true, true, true, false, false, false] rfl rfl (one_of HT_.out (by kernel_rfl)) (by decide) (fun K hK => ?_)
              refine value_ (v := .pointer (some ⟨wE.heap.size, 0, none⟩)) (w1 := wE.alloc (.cells #[.int .i64 0, .int .i64 0] 34)) (by rfl) rfl (by first | (go_simp; done) | (go_simp; rfl)) ?_
              have kz := blk_new wE (.cells #[.int .i64 0, .int .i64 0] 34)
              have hbz := below_alloc (Below.refl wE.heap.size wE) (.cells #[.int .i64 0, .int .i64 0] 34)
              refine hK.out _ _ trivial (fun _ => ?_)
              clear hK K
              refine norm_ (a' := ?_) ?_ ?_
              rotate_left
              · show Act.put _ (some 40) _ = _
                simp only [Act.put, List.setIfInBounds_toArray, List.set_cons_zero, List.set_cons_succ, i64_w, i32_w]
                rfl
              generalize wE.alloc (.cells #[.int .i64 0, .int .i64 0] 34) = wZ at kz hbz ⊢
              obtain ⟨g40, hg_⟩ : ∃ g, g = wE.heap.size := ⟨_, rfl⟩
              rw [← hg_] at kz ⊢
              have hle : wE.heap.size ≤ g40 := by rw [hg_]; exact Nat.le_refl _
              clear hg_
              have s0 := (blk_cell kz 0).trans rfl
              have s1 := (blk_cell kz 1).trans rfl
              have f0 := blk_frozen kz 0
              have f1 := blk_frozen kz 1
              refine pure_ (i := 12) (N := some 39) (v := ?_) (a' := ?_) #[true, true, true, true, true, true, true, true, true, true, true, true, true, false, false] rfl rfl (any_of HT_.out (by kernel_rfl)) (fun _ _ _ h => h) (Or.inl ⟨by rfl, ?_⟩) ?_ ?_
              rotate_left
              · intro w'
                go_simp
                with_reducible rfl
              rotate_left
              · simp only [Act.put, List.setIfInBounds_toArray, List.set_cons_zero, List.set_cons_succ, i64_w, i32_w]
                rfl
              refine one_ (i := 13) (N := none) #[true, true, true, true, true, true, true, true, true, true, true, true, true, true, false] rfl rfl (one_of HT_.out (by kernel_rfl)) (by decide) (fun K hK => ?_)
              refine store_step (by rfl) rfl (w1 := ((wZ.setCell ⟨g40, 0, none⟩ (.int .i64 q1)).setCell ⟨g40, 1, none⟩ (.int .i64 q2))) ?hr ?_
              (case hr => first | (go_simp; done) | (go_simp; rfl))
              clear s0 s1 f0 f1
              have kq : ((wZ.setCell ⟨g40, 0, none⟩ (.int .i64 q1)).setCell ⟨g40, 1, none⟩ (.int .i64 q2)).heap[g40]? = some (.cells #[.int .i64 q1, .int .i64 q2] 34 (0, 0)) := by refine blk_put (cs := #[.int .i64 q1, .int .i64 0]) ?_ 1 _ rfl; refine blk_put (cs := #[.int .i64 0, .int .i64 0]) ?_ 0 _ rfl; exact kz
              have hbx := below_set (g := g40) (j := 1) (v := .int .i64 q2) (below_set (g := g40) (j := 0) (v := .int .i64 q1) hbz hle) hle
              have HBX := Aside0.mk (HBE.out.trans (hbx.mono HBE.out.size))
              have RUX := Aside0.mk (And.intro (RUE.out.1.below hbx) (RUE.out.2.below hbx))
              have Kg36X := Aside0.mk (blk_below2 hbx Kg36E.out)
              have Kg38X := Aside0.mk (blk_below2 hbx Kg38E.out)
              have Kg40X := Aside0.mk kq
              clear kq hbx kz hbz hle HBE RUE Kg36E Kg38E
              generalize ((wZ.setCell ⟨g40, 0, none⟩ (.int .i64 q1)).setCell ⟨g40, 1, none⟩ (.int .i64 q2)) = wX at HBX RUX Kg40X Kg36X Kg38X ⊢
              refine hK.out _ _ trivial (fun _ => ?_)
              clear hK K
              refine pure_ (i := 14) (N := some 41) (v := ?_) (a' := ?_) #[true, true, true, true, true, true, true, true, true, true, true, true, true, true, true] rfl rfl (any_of HT_.out (by kernel_rfl)) (fun _ _ _ h => h) (Or.inl ⟨by rfl, ?_⟩) ?_ ?_
              rotate_left
              · intro w'
                go_simp
                with_reducible rfl
              rotate_left
              · simp only [Act.put, List.setIfInBounds_toArray, List.set_cons_zero, List.set_cons_succ, i64_w, i32_w]
                rfl
              refine done_ (done_of HT_.out (by kernel_rfl)) ?_
              clear HT_ HW_ hHeld
              have HBW := HBX
              have RUV := RUX
              have Kg36 := Kg36X
              have Kg38 := Kg38X
              have Kg40 := Kg40X
              clear HBX RUX Kg40X Kg36X Kg38X
              obtain ⟨wr, hwr⟩ : ∃ W : World, W = wX := ⟨_, rfl⟩
              subst hwr
              have k6 := Kg36.out
              have k8 := Kg38.out
              have k0 := Kg40.out
              have f0 := (blk_cell k6 0).trans rfl
              have f1 := (blk_cell k6 1).trans rfl
              have f2 := (blk_cell k8 0).trans rfl
              have f3 := (blk_cell k8 1).trans rfl
              have f4 := (blk_cell k0 0).trans rfl
              have f5 := (blk_cell k0 1).trans rfl
              clear k6 k8 k0
              have e3 := HQ3.out
              go_wp2_with fail
              refine (works_calls _).mono ?_
              rintro e w9 ⟨rfl, hb⟩
              go_wp2
              go_ret
              exact ⟨rfl, HB1.out.trans ((HB4.out.trans ((HBW.out.trans (hb.mono HBW.out.size)).mono HB4.out.size)).mono HB1.out.size)⟩
            · refine value_ (v := .pointer (some ⟨wD.heap.size, 0, none⟩)) (w1 := wD.alloc (.cells #[.int .i64 0, .int .i64 0] 34)) (by rfl) rfl (by first | (go_simp; done) | (go_simp; rfl)) ?_
              have kz := blk_new wD (.cells #[.int .i64 0, .int .i64 0] 34)
              have hbz0 := below_alloc (Below.refl wD.heap.size wD) (.cells #[.int .i64 0, .int .i64 0] 34)
              have hbs := HBD.out.trans (hbz0.mono HBD.out.size)
              refine hK.out _ _ trivial (fun _ => ?_)
              clear hK K
              refine norm_ (a' := ?_) ?_ ?_
              rotate_left
              · show Act.put _ (some 40) _ = _
                simp only [Act.put, List.setIfInBounds_toArray, List.set_cons_zero, List.set_cons_succ, i64_w, i32_w]
                rfl
              refine one_ (i := 6) (N := some 242) #[true, true, true, true, true, true, true, false, false, false, false, true, false, false, false] rfl rfl (one_of HT_.out (by kernel_rfl)) (by decide) (fun K hK => ?_)
              refine goes_ Try.func26 (by kernel_rfl) rfl #[.slice (some adb) n cb, .slice (some ada) n ca] (by rfl) rfl rfl (by (try simp only [List.map_toArray, List.map_cons, List.map_nil]); first | done | rfl) ?_
              refine (paired_n (some adb) cb n (b.take n) (some ada) ca n (a.take n) q3 q1 q2 0 _ HNL.out.2.1 HNL.out.1 (Kd.C_below (C_take CB.out.2 n) (hbs)) HNL.out.2.2.2 (Kd.C_below (C_take CA.out.2 n) (hbs)) HNL.out.2.2.1 HPF.out.2.2).mono ?_
              rintro e wE ⟨rfl, hb⟩
              refine ⟨_, rfl, ?_⟩
              have hbz : Below wD.heap.size wD wE := below_then hbz0 (by simp) hb
              replace kz := blk_below2 hb kz
              have HBE := HBD
              have RUE := RUD
              have Kg36E := Kg36D
              have Kg38E := Kg38D
              clear hb hbz0 hbs HBD RUD Kg36D Kg38D
              refine hK.out _ _ trivial (fun _ => ?_)
              clear hK K
              refine norm_ (a' := ?_) ?_ ?_
              rotate_left
              · show Act.put _ (some 242) _ = _
                simp only [Act.put, List.setIfInBounds_toArray, List.set_cons_zero, List.set_cons_succ, i64_w, i32_w]
                rfl
              refine take_ (i := 7) (N := some 235) (v := ?_) (a' := ?_) #[true, true, true, true, true, true, true, true, false, false, false, true, false, false, false] rfl rfl (take_ofW HT_.out HW_.out (by kernel_rfl)) (fun _ _ _ h => h) (Or.inl ⟨by rfl, ?_⟩) hHeld ?_ ?_
              rotate_left
              · rintro w' _
                go_simp
                with_reducible rfl
              rotate_left
              · simp only [Act.put, List.setIfInBounds_toArray, List.set_cons_zero, List.set_cons_succ, i64_w, i32_w]
                rfl
              refine take_ (i := 8) (N := some 243) (v := ?_) (a' := ?_) #[true, true, true, true, true, true, true, true, true, false, false, true, false, false, false] rfl rfl (take_ofW HT_.out HW_.out (by kernel_rfl)) (fun _ _ _ h => h) (Or.inl ⟨by rfl, ?_⟩) hHeld ?_ ?_
              rotate_left
              · rintro w' _
                go_simp
                with_reducible rfl
              rotate_left
              · simp only [Act.put, List.setIfInBounds_toArray, List.set_cons_zero, List.set_cons_succ, i64_w, i32_w]
                rfl
              refine take_ (i := 9) (N := some 244) (v := ?_) (a' := ?_) #[true, true, true, true, true, true, true, true, true, true, false, true, false, false, false] rfl rfl (take_ofW HT_.out HW_.out (by kernel_rfl)) (fun _ _ _ h => h) (Or.inl ⟨by rfl, ?_⟩) hHeld ?_ ?_
              rotate_left
              · rintro w' _
                go_simp
                with_reducible rfl
              rotate_left
              · simp only [Act.put, List.setIfInBounds_toArray, List.set_cons_zero, List.set_cons_succ, i64_w, i32_w]
                rfl
              refine take_ (i := 10) (N := some 245) (v := ?_) (a' := ?_) #[true, true, true, true, true, true, true, true, true, true, true, true, false, false, false] rfl rfl (take_ofW HT_.out HW_.out (by kernel_rfl)) (fun _ _ _ h => h) (Or.inl ⟨by rfl, ?_⟩) hHeld ?_ ?_
              rotate_left
              · rintro w' _
                go_simp
                with_reducible rfl
              rotate_left
              · simp only [Act.put, List.setIfInBounds_toArray, List.set_cons_zero, List.set_cons_succ, i64_w, i32_w]
                rfl
              generalize wE = wZ at kz hbz ⊢
              obtain ⟨g40, hg_⟩ : ∃ g, g = wD.heap.size := ⟨_, rfl⟩
              rw [← hg_] at kz ⊢
              have hle : wD.heap.size ≤ g40 := by rw [hg_]; exact Nat.le_refl _
              clear hg_
              have s0 := (blk_cell kz 0).trans rfl
              have s1 := (blk_cell kz 1).trans rfl
              have f0 := blk_frozen kz 0
              have f1 := blk_frozen kz 1
              refine pure_ (i := 12) (N := some 39) (v := ?_) (a' := ?_) #[true, true, true, true, true, true, true, true, true, true, true, true, true, false, false] rfl rfl (any_of HT_.out (by kernel_rfl)) (fun _ _ _ h => h) (Or.inl ⟨by rfl, ?_⟩) ?_ ?_
              rotate_left
              · intro w'
                go_simp
                with_reducible rfl
              rotate_left
              · simp only [Act.put, List.setIfInBounds_toArray, List.set_cons_zero, List.set_cons_succ, i64_w, i32_w]
                rfl
              refine one_ (i := 13) (N := none) #[true, true, true, true, true, true, true, true, true, true, true, true, true, true, false] rfl rfl (one_of HT_.out (by kernel_rfl)) (by decide) (fun K hK => ?_)
              refine store_step (by rfl) rfl (w1 := ((wZ.setCell ⟨g40, 0, none⟩ (.int .i64 q1)).setCell ⟨g40, 1, none⟩ (.int .i64 q2))) ?hr ?_
              (case hr => first | (go_simp; done) | (go_simp; rfl))
              clear s0 s1 f0 f1
              have kq : ((wZ.setCell ⟨g40, 0, none⟩ (.int .i64 q1)).setCell ⟨g40, 1, none⟩ (.int .i64 q2)).heap[g40]? = some (.cells #[.int .i64 q1, .int .i64 q2] 34 (0, 0)) := by refine blk_put (cs := #[.int .i64 q1, .int .i64 0]) ?_ 1 _ rfl; refine blk_put (cs := #[.int .i64 0, .int .i64 0]) ?_ 0 _ rfl; exact kz
              have hbx := below_set (g := g40) (j := 1) (v := .int .i64 q2) (below_set (g := g40) (j := 0) (v := .int .i64 q1) hbz hle) hle
              have HBX := Aside0.mk (HBE.out.trans (hbx.mono HBE.out.size))
              have RUX := Aside0.mk (And.intro (RUE.out.1.below hbx) (RUE.out.2.below hbx))
              have Kg36X := Aside0.mk (blk_below2 hbx Kg36E.out)
              have Kg38X := Aside0.mk (blk_below2 hbx Kg38E.out)
              have Kg40X := Aside0.mk kq
              clear kq hbx kz hbz hle HBE RUE Kg36E Kg38E
              generalize ((wZ.setCell ⟨g40, 0, none⟩ (.int .i64 q1)).setCell ⟨g40, 1, none⟩ (.int .i64 q2)) = wX at HBX RUX Kg40X Kg36X Kg38X ⊢
              refine hK.out _ _ trivial (fun _ => ?_)
              clear hK K
              refine pure_ (i := 14) (N := some 41) (v := ?_) (a' := ?_) #[true, true, true, true, true, true, true, true, true, true, true, true, true, true, true] rfl rfl (any_of HT_.out (by kernel_rfl)) (fun _ _ _ h => h) (Or.inl ⟨by rfl, ?_⟩) ?_ ?_
              rotate_left
              · intro w'
                go_simp
                with_reducible rfl
              rotate_left
              · simp only [Act.put, List.setIfInBounds_toArray, List.set_cons_zero, List.set_cons_succ, i64_w, i32_w]
                rfl
              refine done_ (done_of HT_.out (by kernel_rfl)) ?_
              clear HT_ HW_ hHeld
              have HBW := HBX
              have RUV := RUX
              have Kg36 := Kg36X
              have Kg38 := Kg38X
              have Kg40 := Kg40X
              clear HBX RUX Kg40X Kg36X Kg38X
              obtain ⟨wr, hwr⟩ : ∃ W : World, W = wX := ⟨_, rfl⟩
              subst hwr
              have k6 := Kg36.out
              have k8 := Kg38.out
              have k0 := Kg40.out
              have f0 := (blk_cell k6 0).trans rfl
              have f1 := (blk_cell k6 1).trans rfl
              have f2 := (blk_cell k8 0).trans rfl
              have f3 := (blk_cell k8 1).trans rfl
              have f4 := (blk_cell k0 0).trans rfl
              have f5 := (blk_cell k0 1).trans rfl
              clear k6 k8 k0
              have e3 := HQ3.out
              go_wp2_with fail
              refine (works_calls _).mono ?_
              rintro e w9 ⟨rfl, hb⟩
              go_wp2
              go_ret
              exact ⟨rfl, HB1.out.trans ((HB4.out.trans ((HBW.out.trans (hb.mono HBW.out.size)).mono HB4.out.size)).mono HB1.out.size)⟩
          · refine value_ (v := .pointer (some ⟨wD.heap.size, 0, none⟩)) (w1 := wD.alloc (.cells #[.int .i64 0, .int .i64 0] 34)) (by rfl) rfl (by first | (go_simp; done) | (go_simp; rfl)) ?_
            have kz := blk_new wD (.cells #[.int .i64 0, .int .i64 0] 34)
            have hbz0 := below_alloc (Below.refl wD.heap.size wD) (.cells #[.int .i64 0, .int .i64 0] 34)
            have hbs := HBD.out.trans (hbz0.mono HBD.out.size)
            refine hK.out _ _ trivial (fun _ => ?_)
            clear hK K
            refine norm_ (a' := ?_) ?_ ?_
            rotate_left
            · show Act.put _ (some 36) _ = _
              simp only [Act.put, List.setIfInBounds_toArray, List.set_cons_zero, List.set_cons_succ, i64_w, i32_w]
              rfl
            refine one_ (i := 6) (N := some 224) #[true, true, true, true, true, true, true, false, false, false, false, true, false, false, false] rfl rfl (one_of HT_.out (by kernel_rfl)) (by decide) (fun K hK => ?_)
            refine goes_ Try.func26 (by kernel_rfl) rfl #[.slice (some ada) n ca, .slice (some adb) n cb] (by rfl) rfl rfl (by (try simp only [List.map_toArray, List.map_cons, List.map_nil]); first | done | rfl) ?_
            refine (paired_n (some ada) ca n (a.take n) (some adb) cb n (b.take n) q0 q1 q2 0 _ HNL.out.1 HNL.out.2.1 (Kd.C_below (C_take CA.out.2 n) (hbs)) HNL.out.2.2.1 (Kd.C_below (C_take CB.out.2 n) (hbs)) HNL.out.2.2.2 HPF.out.1).mono ?_
            rintro e wE ⟨rfl, hb⟩
            refine ⟨_, rfl, ?_⟩
            have hbz : Below wD.heap.size wD wE := below_then hbz0 (by simp) hb
            replace kz := blk_below2 hb kz
            have HBE := HBD
            have RUE := RUD
            clear hb hbz0 hbs HBD RUD 
            refine hK.out _ _ trivial (fun _ => ?_)
            clear hK K
            refine norm_ (a' := ?_) ?_ ?_
            rotate_left
            · show Act.put _ (some 224) _ = _
              simp only [Act.put, List.setIfInBounds_toArray, List.set_cons_zero, List.set_cons_succ, i64_w, i32_w]
              rfl
            refine take_ (i := 7) (N := some 217) (v := ?_) (a' := ?_) #[true, true, true, true, true, true, true, true, false, false, false, true, false, false, false] rfl rfl (take_ofW HT_.out HW_.out (by kernel_rfl)) (fun _ _ _ h => h) (Or.inl ⟨by rfl, ?_⟩) hHeld ?_ ?_
            rotate_left
            · rintro w' _
              go_simp
              with_reducible rfl
            rotate_left
            · simp only [Act.put, List.setIfInBounds_toArray, List.set_cons_zero, List.set_cons_succ, i64_w, i32_w]
              rfl
            refine take_ (i := 8) (N := some 225) (v := ?_) (a' := ?_) #[true, true, true, true, true, true, true, true, true, false, false, true, false, false, false] rfl rfl (take_ofW HT_.out HW_.out (by kernel_rfl)) (fun _ _ _ h => h) (Or.inl ⟨by rfl, ?_⟩) hHeld ?_ ?_
            rotate_left
            · rintro w' _
              go_simp
              with_reducible rfl
            rotate_left
            · simp only [Act.put, List.setIfInBounds_toArray, List.set_cons_zero, List.set_cons_succ, i64_w, i32_w]
              rfl
            refine take_ (i := 9) (N := some 226) (v := ?_) (a' := ?_) #[true, true, true, true, true, true, true, true, true, true, false, true, false, false, false] rfl rfl (take_ofW HT_.out HW_.out (by kernel_rfl)) (fun _ _ _ h => h) (Or.inl ⟨by rfl, ?_⟩) hHeld ?_ ?_
            rotate_left
            · rintro w' _
              go_simp
              with_reducible rfl
            rotate_left
            · simp only [Act.put, List.setIfInBounds_toArray, List.set_cons_zero, List.set_cons_succ, i64_w, i32_w]
              rfl
            refine take_ (i := 10) (N := some 227) (v := ?_) (a' := ?_) #[true, true, true, true, true, true, true, true, true, true, true, true, false, false, false] rfl rfl (take_ofW HT_.out HW_.out (by kernel_rfl)) (fun _ _ _ h => h) (Or.inl ⟨by rfl, ?_⟩) hHeld ?_ ?_
            rotate_left
            · rintro w' _
              go_simp
              with_reducible rfl
            rotate_left
            · simp only [Act.put, List.setIfInBounds_toArray, List.set_cons_zero, List.set_cons_succ, i64_w, i32_w]
              rfl
            generalize wE = wZ at kz hbz ⊢
            obtain ⟨g36, hg_⟩ : ∃ g, g = wD.heap.size := ⟨_, rfl⟩
            rw [← hg_] at kz ⊢
            have hle : wD.heap.size ≤ g36 := by rw [hg_]; exact Nat.le_refl _
            clear hg_
            have s0 := (blk_cell kz 0).trans rfl
            have s1 := (blk_cell kz 1).trans rfl
            have f0 := blk_frozen kz 0
            have f1 := blk_frozen kz 1
            refine pure_ (i := 12) (N := some 35) (v := ?_) (a' := ?_) #[true, true, true, true, true, true, true, true, true, true, true, true, true, false, false] rfl rfl (any_of HT_.out (by kernel_rfl)) (fun _ _ _ h => h) (Or.inl ⟨by rfl, ?_⟩) ?_ ?_
            rotate_left
            · intro w'
              go_simp
              with_reducible rfl
            rotate_left
            · simp only [Act.put, List.setIfInBounds_toArray, List.set_cons_zero, List.set_cons_succ, i64_w, i32_w]
              rfl
            refine one_ (i := 13) (N := none) #[true, true, true, true, true, true, true, true, true, true, true, true, true, true, false] rfl rfl (one_of HT_.out (by kernel_rfl)) (by decide) (fun K hK => ?_)
            refine store_step (by rfl) rfl (w1 := ((wZ.setCell ⟨g36, 0, none⟩ (.int .i64 q1)).setCell ⟨g36, 1, none⟩ (.int .i64 q2))) ?hr ?_
            (case hr => first | (go_simp; done) | (go_simp; rfl))
            clear s0 s1 f0 f1
            have kq : ((wZ.setCell ⟨g36, 0, none⟩ (.int .i64 q1)).setCell ⟨g36, 1, none⟩ (.int .i64 q2)).heap[g36]? = some (.cells #[.int .i64 q1, .int .i64 q2] 34 (0, 0)) := by refine blk_put (cs := #[.int .i64 q1, .int .i64 0]) ?_ 1 _ rfl; refine blk_put (cs := #[.int .i64 0, .int .i64 0]) ?_ 0 _ rfl; exact kz
            have hbx := below_set (g := g36) (j := 1) (v := .int .i64 q2) (below_set (g := g36) (j := 0) (v := .int .i64 q1) hbz hle) hle
            have HBX := Aside0.mk (HBE.out.trans (hbx.mono HBE.out.size))
            have RUX := Aside0.mk (And.intro (RUE.out.1.below hbx) (RUE.out.2.below hbx))
            have Kg36X := Aside0.mk kq
            clear kq hbx kz hbz hle HBE RUE 
            generalize ((wZ.setCell ⟨g36, 0, none⟩ (.int .i64 q1)).setCell ⟨g36, 1, none⟩ (.int .i64 q2)) = wX at HBX RUX Kg36X  ⊢
            refine hK.out _ _ trivial (fun _ => ?_)
            clear hK K
            refine pure_ (i := 14) (N := some 21) (v := ?_) (a' := ?_) #[true, true, true, true, true, true, true, true, true, true, true, true, true, true, true] rfl rfl (any_of HT_.out (by kernel_rfl)) (fun _ _ _ h => h) (Or.inl ⟨by rfl, ?_⟩) ?_ ?_
            rotate_left
            · intro w'
              go_simp
              with_reducible rfl
            rotate_left
            · simp only [Act.put, List.setIfInBounds_toArray, List.set_cons_zero, List.set_cons_succ, i64_w, i32_w]
              rfl
            refine done_ (done_of HT_.out (by kernel_rfl)) ?_
            clear HT_ HW_ hHeld
            have HBW := HBX
            have RUV := RUX
            have Kg36 := Kg36X
            clear HBX RUX Kg36X 
            obtain ⟨wr, hwr⟩ : ∃ W : World, W = wX := ⟨_, rfl⟩
            subst hwr
            go_wp2_with fail
            refine (paired_n (some ⟨gU, 0, none⟩) capU n U (some ⟨gV, 0, none⟩) capV n V q0 q1 q2 0 _ HLU.out.1 HLU.out.2 RUV.out.1.C RUV.out.1.le.1 RUV.out.2.C RUV.out.2.le.1 HPF.out.2.1).mono ?_
            rintro e w8 ⟨rfl, hb⟩
            obtain ⟨g38, hg38⟩ : ∃ g, g = w8.heap.size := ⟨_, rfl⟩
            have hbz := below_then hb hb.size (below_alloc (Below.refl w8.heap.size w8) (.cells #[.int .i64 q1, .int .i64 q2] 34))
            have k38 := blk_new w8 (.cells #[.int .i64 q1, .int .i64 q2] 34)
            rw [← hg38] at k38
            have HBX := Aside0.mk (HBW.out.trans (hbz.mono HBW.out.size))
            have RUX := Aside0.mk (And.intro (RUV.out.1.below hbz) (RUV.out.2.below hbz))
            have Kg36X := Aside0.mk (blk_below2 hbz Kg36.out)
            have Kg38 := Aside0.mk k38
            clear hb hbz k38 HBW RUV Kg36
            have HBW := HBX
            have RUV := RUX
            have Kg36 := Kg36X
            clear HBX RUX Kg36X
            go_upto_region 36 with fail
            rw [← hg38]
            clear hg38
            generalize w8.alloc (.cells #[.int .i64 q1, .int .i64 q2] 34) = wr at HBW RUV Kg36 Kg38 ⊢
            have hbd : Below wr.heap.size wr wr.drew := below_drew (Below.refl wr.heap.size wr)
            have HBD := Aside0.mk (below_drew1 HBW.out)
            have RUD := Aside0.mk (And.intro (RUV.out.1.below hbd) (RUV.out.2.below hbd))
            have Kg36D := Aside0.mk (blk_below2 hbd Kg36.out)
            have Kg38D := Aside0.mk (blk_below2 hbd Kg38.out)
            clear hbd HBW RUV Kg36 Kg38
            refine start_ (n := 15) (S := fun _ => True) (ds := []) #[false, false, false, false, false, false, false, false, false, false, false, false, false, false, false] (by kernel_rfl) rfl rfl trivial (fun hHeld => ?_)
            refine with_tabW tr36_tab tr36_bits (fun HT_ HW_ => ?_)
            generalize wr.drew = wD at HBD RUD hHeld Kg36D Kg38D ⊢
            refine take_ (i := 0) (N := some 236) (v := ?_) (a' := ?_) #[true, false, false, false, false, false, false, false, false, false, false, false, false, false, false] rfl rfl (take_ofW HT_.out HW_.out (by kernel_rfl)) (fun _ _ _ h => h) (Or.inl ⟨by rfl, ?_⟩) hHeld ?_ ?_
            rotate_left
            · rintro w' _
              go_simp
              with_reducible rfl
            rotate_left
            · simp only [Act.put, List.setIfInBounds_toArray, List.set_cons_zero, List.set_cons_succ, i64_w, i32_w]
              rfl
            refine take_ (i := 1) (N := some 237) (v := ?_) (a' := ?_) #[true, true, false, false, false, false, false, false, false, false, false, false, false, false, false] rfl rfl (take_ofW HT_.out HW_.out (by kernel_rfl)) (fun _ _ _ h => h) (Or.inl ⟨by rfl, ?_⟩) hHeld ?_ ?_
            rotate_left
            · rintro w' _
              go_simp
              with_reducible rfl
            rotate_left
            · simp only [Act.put, List.setIfInBounds_toArray, List.set_cons_zero, List.set_cons_succ, i64_w, i32_w]
              rfl
            refine take_ (i := 2) (N := some 238) (v := ?_) (a' := ?_) #[true, true, true, false, false, false, false, false, false, false, false, false, false, false, false] rfl rfl (take_ofW HT_.out HW_.out (by kernel_rfl)) (fun _ _ _ h => h) (Or.inl ⟨by rfl, ?_⟩) hHeld ?_ ?_
            rotate_left
            · rintro w' _
              go_simp
              with_reducible rfl
            rotate_left
            · simp only [Act.put, List.setIfInBounds_toArray, List.set_cons_zero, List.set_cons_succ, i64_w, i32_w]
              rfl
            refine take_ (i := 3) (N := some 239) (v := ?_) (a' := ?_) #[true, true, true, true, false, false, false, false, false, false, false, false, false, false, false] rfl rfl (take_ofW HT_.out HW_.out (by kernel_rfl)) (fun _ _ _ h => h) (Or.inl ⟨by rfl, ?_⟩) hHeld ?_ ?_
            rotate_left
            · rintro w' _
              go_simp
              with_reducible rfl
            rotate_left
            · simp only [Act.put, List.setIfInBounds_toArray, List.set_cons_zero, List.set_cons_succ, i64_w, i32_w]
              rfl
            refine take_ (i := 4) (N := some 240) (v := ?_) (a' := ?_) #[true, true, true, true, true, false, false, false, false, false, false, false, false, false, false] rfl rfl (take_ofW HT_.out HW_.out (by kernel_rfl)) (fun _ _ _ h => h) (Or.inl ⟨by rfl, ?_⟩) hHeld ?_ ?_
            rotate_left
            · rintro w' _
              go_simp
              with_reducible rfl
            rotate_left
            · simp only [Act.put, List.setIfInBounds_toArray, List.set_cons_zero, List.set_cons_succ, i64_w, i32_w]
              rfl
            refine take_ (i := 5) (N := some 241) (v := ?_) (a' := ?_) #[true, true, true, true, true, true, false, false, false, false, false, false, false, false, false] rfl rfl (take_ofW HT_.out HW_.out (by kernel_rfl)) (fun _ _ _ h => h) (Or.inl ⟨by rfl, ?_⟩) hHeld ?_ ?_
            rotate_left
            · rintro w' _
              go_simp
              with_reducible rfl
            rotate_left
            · simp only [Act.put, List.setIfInBounds_toArray, List.set_cons_zero, List.set_cons_succ, i64_w, i32_w]
              rfl
            refine two_ (i := 6) (j := 11) (Ni := some 242) (Nj := some 40) #[true, true, true, true, true, true, true, false, false, false, false, false, false, false, false] #[true, true, true, true, true, true, false, false, false, false, false, true, false, false, false] rfl rfl rfl rfl HT_.out (by kernel_rfl) (by decide) (by decide) (fun K hK => ?_) (fun K hK => ?_)
            · refine goes_ Try.func26 (by kernel_rfl) rfl #[.slice (some adb) n cb, .slice (some ada) n ca] (by rfl) rfl rfl (by (try simp only [List.map_toArray, List.map_cons, List.map_nil]); first | done | rfl) ?_
              refine (paired_n (some adb) cb n (b.take n) (some ada) ca n (a.take n) q3 q1 q2 0 _ HNL.out.2.1 HNL.out.1 (Kd.C_below (C_take CB.out.2 n) (HBD.out)) HNL.out.2.2.2 (Kd.C_below (C_take CA.out.2 n) (HBD.out)) HNL.out.2.2.1 HPF.out.2.2).mono ?_
              rintro e wE ⟨rfl, hb⟩
              refine ⟨_, rfl, ?_⟩
              have HBE := Aside0.mk (HBD.out.trans (hb.mono HBD.out.size))
              have RUE := Aside0.mk (And.intro (RUD.out.1.below hb) (RUD.out.2.below hb))
              have Kg36E := Aside0.mk (blk_below2 hb Kg36D.out)
              have Kg38E := Aside0.mk (blk_below2 hb Kg38D.out)
              clear hb HBD RUD Kg36D Kg38D
              refine hK.out _ _ trivial (fun _ => ?_)
              clear hK K
              refine norm_ (a' := ?_) ?_ ?_
              rotate_left
              · show Act.put _ (some 242) _ = _
                simp only [Act.put, List.setIfInBounds_toArray, List.set_cons_zero, List.set_cons_succ, i64_w, i32_w]
                rfl
              refine take_ (i := 7) (N := some 235) (v := ?_) (a' := ?_) #[true, true, true, true, true, true, true, true, false, false, false, false, false, false, false] rfl rfl (take_ofW HT_.out HW_.out (by kernel_rfl)) (fun _ _ _ h => h) (Or.inl ⟨by rfl, ?_⟩) hHeld ?_ ?_
              rotate_left
              · rintro w' _
                go_simp
                with_reducible rfl
              rotate_left
              · simp only [Act.put, List.setIfInBounds_toArray, List.set_cons_zero, List.set_cons_succ, i64_w, i32_w]
                rfl
              refine take_ (i := 8) (N := some 243) (v := ?_) (a' := ?_) #[true, true, true, true, true, true, true, true, true, false, false, false, false, false, false] rfl rfl (take_ofW HT_.out HW_.out (by kernel_rfl)) (fun _ _ _ h => h) (Or.inl ⟨by rfl, ?_⟩) hHeld ?_ ?_
              rotate_left
              · rintro w' _
                go_simp
                with_reducible rfl
              rotate_left
              · simp only [Act.put, List.setIfInBounds_toArray, List.set_cons_zero, List.set_cons_succ, i64_w, i32_w]
                rfl
              refine take_ (i := 9) (N := some 244) (v := ?_) (a' := ?_) #[true, true, true, true, true, true, true, true, true, true, false, false, false, false, false] rfl rfl (take_ofW HT_.out HW_.out (by kernel_rfl)) (fun _ _ _ h => h) (Or.inl ⟨by rfl, ?_⟩) hHeld ?_ ?_
              rotate_left
              · rintro w' _
                go_simp
                with_reducible rfl
              rotate_left
              · simp only [Act.put, List.setIfInBounds_toArray, List.set_cons_zero, List.set_cons_succ, i64_w, i32_w]
                rfl
              refine take_ (i := 10) (N := some 245) (v := ?_) (a' := ?_) #[true, true, true, true, true, true, true, true, true, true, true, false, false, false, false] rfl rfl (take_ofW HT_.out HW_.out (by kernel_rfl)) (fun _ _ _ h => h) (Or.inl ⟨by rfl, ?_⟩) hHeld ?_ ?_
              rotate_left
              · rintro w' _
                go_simp
                with_reducible rfl
              rotate_left
              · simp only [Act.put, List.setIfInBounds_toArray, List.set_cons_zero, List.set_cons_succ, i64_w, i32_w]
                rfl
              refine one_ (i := 11) (N := some 40) #[true, true, true, true, true, true, true, true, true, true, true, true, false, false, false] rfl rfl (one_of HT_.out (by kernel_rfl)) (by decide) (fun K hK => ?_)
              refine value_ (v := .pointer (some ⟨wE.heap.size, 0, none⟩)) (w1 := wE.alloc (.cells #[.int .i64 0, .int .i64 0] 34)) (by rfl) rfl (by first | (go_simp; done) | (go_simp; rfl)) ?_
              have kz := blk_new wE (.cells #[.int .i64 0, .int .i64 0] 34)
              have hbz := below_alloc (Below.refl wE.heap.size wE) (.cells #[.int .i64 0, .int .i64 0] 34)
              refine hK.out _ _ trivial (fun _ => ?_)
              clear hK K
              refine norm_ (a' := ?_) ?_ ?_
              rotate_left
              · show Act.put _ (some 40) _ = _
                simp only [Act.put, List.setIfInBounds_toArray, List.set_cons_zero, List.set_cons_succ, i64_w, i32_w]
                rfl
              generalize wE.alloc (.cells #[.int .i64 0, .int .i64 0] 34) = wZ at kz hbz ⊢
              obtain ⟨g40, hg_⟩ : ∃ g, g = wE.heap.size := ⟨_, rfl⟩
              rw [← hg_] at kz ⊢
              have hle : wE.heap.size ≤ g40 := by rw [hg_]; exact Nat.le_refl _
              clear hg_
              have s0 := (blk_cell kz 0).trans rfl
              have s1 := (blk_cell kz 1).trans rfl
              have f0 := blk_frozen kz 0
              have f1 := blk_frozen kz 1
              refine pure_ (i := 12) (N := some 39) (v := ?_) (a' := ?_) #[true, true, true, true, true, true, true, true, true, true, true, true, true, false, false] rfl rfl (any_of HT_.out (by kernel_rfl)) (fun _ _ _ h => h) (Or.inl ⟨by rfl, ?_⟩) ?_ ?_
              rotate_left
              · intro w'
                go_simp
                with_reducible rfl
              rotate_left
              · simp only [Act.put, List.setIfInBounds_toArray, List.set_cons_zero, List.set_cons_succ, i64_w, i32_w]
                rfl
              refine one_ (i := 13) (N := none) #[true, true, true, true, true, true, true, true, true, true, true, true, true, true, false] rfl rfl (one_of HT_.out (by kernel_rfl)) (by decide) (fun K hK => ?_)
              refine store_step (by rfl) rfl (w1 := ((wZ.setCell ⟨g40, 0, none⟩ (.int .i64 q1)).setCell ⟨g40, 1, none⟩ (.int .i64 q2))) ?hr ?_
              (case hr => first | (go_simp; done) | (go_simp; rfl))
              clear s0 s1 f0 f1
              have kq : ((wZ.setCell ⟨g40, 0, none⟩ (.int .i64 q1)).setCell ⟨g40, 1, none⟩ (.int .i64 q2)).heap[g40]? = some (.cells #[.int .i64 q1, .int .i64 q2] 34 (0, 0)) := by refine blk_put (cs := #[.int .i64 q1, .int .i64 0]) ?_ 1 _ rfl; refine blk_put (cs := #[.int .i64 0, .int .i64 0]) ?_ 0 _ rfl; exact kz
              have hbx := below_set (g := g40) (j := 1) (v := .int .i64 q2) (below_set (g := g40) (j := 0) (v := .int .i64 q1) hbz hle) hle
              have HBX := Aside0.mk (HBE.out.trans (hbx.mono HBE.out.size))
              have RUX := Aside0.mk (And.intro (RUE.out.1.below hbx) (RUE.out.2.below hbx))
              have Kg36X := Aside0.mk (blk_below2 hbx Kg36E.out)
              have Kg38X := Aside0.mk (blk_below2 hbx Kg38E.out)
              have Kg40X := Aside0.mk kq
              clear kq hbx kz hbz hle HBE RUE Kg36E Kg38E
              generalize ((wZ.setCell ⟨g40, 0, none⟩ (.int .i64 q1)).setCell ⟨g40, 1, none⟩ (.int .i64 q2)) = wX at HBX RUX Kg40X Kg36X Kg38X ⊢
              refine hK.out _ _ trivial (fun _ => ?_)
              clear hK K
              refine pure_ (i := 14) (N := some 41) (v := ?_) (a' := ?_) #[true, true, true, true, true, true, true, true, true, true, true, true, true, true, true] rfl rfl (any_of HT_.out (by kernel_rfl)) (fun _ _ _ h => h) (Or.inl ⟨by rfl, ?_⟩) ?_ ?_
              rotate_left
              · intro w'
                go_simp
                with_reducible rfl
              rotate_left
              · simp only [Act.put, List.setIfInBounds_toArray, List.set_cons_zero, List.set_cons_succ, i64_w, i32_w]
                rfl
              refine done_ (done_of HT_.out (by kernel_rfl)) ?_
              clear HT_ HW_ hHeld
              have HBW := HBX
              have RUV := RUX
              have Kg36 := Kg36X
              have Kg38 := Kg38X
              have Kg40 := Kg40X
              clear HBX RUX Kg40X Kg36X Kg38X
              obtain ⟨wr, hwr⟩ : ∃ W : World, W = wX := ⟨_, rfl⟩
              subst hwr
              have k6 := Kg36.out
              have k8 := Kg38.out
              have k0 := Kg40.out
              have f0 := (blk_cell k6 0).trans rfl
              have f1 := (blk_cell k6 1).trans rfl
              have f2 := (blk_cell k8 0).trans rfl
              have f3 := (blk_cell k8 1).trans rfl
              have f4 := (blk_cell k0 0).trans rfl
              have f5 := (blk_cell k0 1).trans rfl
              clear k6 k8 k0
              have e3 := HQ3.out
              go_wp2_with fail
              refine (works_calls _).mono ?_
              rintro e w9 ⟨rfl, hb⟩
              go_wp2
              go_ret
              exact ⟨rfl, HB1.out.trans ((HB4.out.trans ((HBW.out.trans (hb.mono HBW.out.size)).mono HB4.out.size)).mono HB1.out.size)⟩
            · refine value_ (v := .pointer (some ⟨wD.heap.size, 0, none⟩)) (w1 := wD.alloc (.cells #[.int .i64 0, .int .i64 0] 34)) (by rfl) rfl (by first | (go_simp; done) | (go_simp; rfl)) ?_
              have kz := blk_new wD (.cells #[.int .i64 0, .int .i64 0] 34)
              have hbz0 := below_alloc (Below.refl wD.heap.size wD) (.cells #[.int .i64 0, .int .i64 0] 34)
              have hbs := HBD.out.trans (hbz0.mono HBD.out.size)
              refine hK.out _ _ trivial (fun _ => ?_)
              clear hK K
              refine norm_ (a' := ?_) ?_ ?_
              rotate_left
              · show Act.put _ (some 40) _ = _
                simp only [Act.put, List.setIfInBounds_toArray, List.set_cons_zero, List.set_cons_succ, i64_w, i32_w]
                rfl
              refine one_ (i := 6) (N := some 242) #[true, true, true, true, true, true, true, false, false, false, false, true, false, false, false] rfl rfl (one_of HT_.out (by kernel_rfl)) (by decide) (fun K hK => ?_)
              refine goes_ Try.func26 (by kernel_rfl) rfl #[.slice (some adb) n cb, .slice (some ada) n ca] (by rfl) rfl rfl (by (try simp only [List.map_toArray, List.map_cons, List.map_nil]); first | done | rfl) ?_
              refine (paired_n (some adb) cb n (b.take n) (some ada) ca n (a.take n) q3 q1 q2 0 _ HNL.out.2.1 HNL.out.1 (Kd.C_below (C_take CB.out.2 n) (hbs)) HNL.out.2.2.2 (Kd.C_below (C_take CA.out.2 n) (hbs)) HNL.out.2.2.1 HPF.out.2.2).mono ?_
              rintro e wE ⟨rfl, hb⟩
              refine ⟨_, rfl, ?_⟩
              have hbz : Below wD.heap.size wD wE := below_then hbz0 (by simp) hb
              replace kz := blk_below2 hb kz
              have HBE := HBD
              have RUE := RUD
              have Kg36E := Kg36D
              have Kg38E := Kg38D
              clear hb hbz0 hbs HBD RUD Kg36D Kg38D
              refine hK.out _ _ trivial (fun _ => ?_)
              clear hK K
              refine norm_ (a' := ?_) ?_ ?_
              rotate_left
              · show Act.put _ (some 242) _ = _
                simp only [Act.put, List.setIfInBounds_toArray, List.set_cons_zero, List.set_cons_succ, i64_w, i32_w]
                rfl
              refine take_ (i := 7) (N := some 235) (v := ?_) (a' := ?_) #[true, true, true, true, true, true, true, true, false, false, false, true, false, false, false] rfl rfl (take_ofW HT_.out HW_.out (by kernel_rfl)) (fun _ _ _ h => h) (Or.inl ⟨by rfl, ?_⟩) hHeld ?_ ?_
              rotate_left
              · rintro w' _
                go_simp
                with_reducible rfl
              rotate_left
              · simp only [Act.put, List.setIfInBounds_toArray, List.set_cons_zero, List.set_cons_succ, i64_w, i32_w]
                rfl
              refine take_ (i := 8) (N := some 243) (v := ?_) (a' := ?_) #[true, true, true, true, true, true, true, true, true, false, false, true, false, false, false] rfl rfl (take_ofW HT_.out HW_.out (by kernel_rfl)) (fun _ _ _ h => h) (Or.inl ⟨by rfl, ?_⟩) hHeld ?_ ?_
              rotate_left
              · rintro w' _
                go_simp
                with_reducible rfl
              rotate_left
              · simp only [Act.put, List.setIfInBounds_toArray, List.set_cons_zero, List.set_cons_succ, i64_w, i32_w]
                rfl
              refine take_ (i := 9) (N := some 244) (v := ?_) (a' := ?_) #[true, true, true, true, true, true, true, true, true, true, false, true, false, false, false] rfl rfl (take_ofW HT_.out HW_.out (by kernel_rfl)) (fun _ _ _ h => h) (Or.inl ⟨by rfl, ?_⟩) hHeld ?_ ?_
              rotate_left
              · rintro w' _
                go_simp
                with_reducible rfl
              rotate_left
              · simp only [Act.put, List.setIfInBounds_toArray, List.set_cons_zero, List.set_cons_succ, i64_w, i32_w]
                rfl
              refine take_ (i := 10) (N := some 245) (v := ?_) (a' := ?_) #[true, true, true, true, true, true, true, true, true, true, true, true, false, false, false] rfl rfl (take_ofW HT_.out HW_.out (by kernel_rfl)) (fun _ _ _ h => h) (Or.inl ⟨by rfl, ?_⟩) hHeld ?_ ?_
              rotate_left
              · rintro w' _
                go_simp
                with_reducible rfl
              rotate_left
              · simp only [Act.put, List.setIfInBounds_toArray, List.set_cons_zero, List.set_cons_succ, i64_w, i32_w]
                rfl
              generalize wE = wZ at kz hbz ⊢
              obtain ⟨g40, hg_⟩ : ∃ g, g = wD.heap.size := ⟨_, rfl⟩
              rw [← hg_] at kz ⊢
              have hle : wD.heap.size ≤ g40 := by rw [hg_]; exact Nat.le_refl _
              clear hg_
              have s0 := (blk_cell kz 0).trans rfl
              have s1 := (blk_cell kz 1).trans rfl
              have f0 := blk_frozen kz 0
              have f1 := blk_frozen kz 1
              refine pure_ (i := 12) (N := some 39) (v := ?_) (a' := ?_) #[true, true, true, true, true, true, true, true, true, true, true, true, true, false, false] rfl rfl (any_of HT_.out (by kernel_rfl)) (fun _ _ _ h => h) (Or.inl ⟨by rfl, ?_⟩) ?_ ?_
              rotate_left
              · intro w'
                go_simp
                with_reducible rfl
              rotate_left
              · simp only [Act.put, List.setIfInBounds_toArray, List.set_cons_zero, List.set_cons_succ, i64_w, i32_w]
                rfl
              refine one_ (i := 13) (N := none) #[true, true, true, true, true, true, true, true, true, true, true, true, true, true, false] rfl rfl (one_of HT_.out (by kernel_rfl)) (by decide) (fun K hK => ?_)
              refine store_step (by rfl) rfl (w1 := ((wZ.setCell ⟨g40, 0, none⟩ (.int .i64 q1)).setCell ⟨g40, 1, none⟩ (.int .i64 q2))) ?hr ?_
              (case hr => first | (go_simp; done) | (go_simp; rfl))
              clear s0 s1 f0 f1
              have kq : ((wZ.setCell ⟨g40, 0, none⟩ (.int .i64 q1)).setCell ⟨g40, 1, none⟩ (.int .i64 q2)).heap[g40]? = some (.cells #[.int .i64 q1, .int .i64 q2] 34 (0, 0)) := by refine blk_put (cs := #[.int .i64 q1, .int .i64 0]) ?_ 1 _ rfl; refine blk_put (cs := #[.int .i64 0, .int .i64 0]) ?_ 0 _ rfl; exact kz
              have hbx := below_set (g := g40) (j := 1) (v := .int .i64 q2) (below_set (g := g40) (j := 0) (v := .int .i64 q1) hbz hle) hle
              have HBX := Aside0.mk (HBE.out.trans (hbx.mono HBE.out.size))
              have RUX := Aside0.mk (And.intro (RUE.out.1.below hbx) (RUE.out.2.below hbx))
              have Kg36X := Aside0.mk (blk_below2 hbx Kg36E.out)
              have Kg38X := Aside0.mk (blk_below2 hbx Kg38E.out)
              have Kg40X := Aside0.mk kq
              clear kq hbx kz hbz hle HBE RUE Kg36E Kg38E
              generalize ((wZ.setCell ⟨g40, 0, none⟩ (.int .i64 q1)).setCell ⟨g40, 1, none⟩ (.int .i64 q2)) = wX at HBX RUX Kg40X Kg36X Kg38X ⊢
              refine hK.out _ _ trivial (fun _ => ?_)
              clear hK K
              refine pure_ (i := 14) (N := some 41) (v := ?_) (a' := ?_) #[true, true, true, true, true, true, true, true, true, true, true, true, true, true, true] rfl rfl (any_of HT_.out (by kernel_rfl)) (fun _ _ _ h => h) (Or.inl ⟨by rfl, ?_⟩) ?_ ?_
              rotate_left
              · intro w'
                go_simp
                with_reducible rfl
              rotate_left
              · simp only [Act.put, List.setIfInBounds_toArray, List.set_cons_zero, List.set_cons_succ, i64_w, i32_w]
                rfl
              refine done_ (done_of HT_.out (by kernel_rfl)) ?_
              clear HT_ HW_ hHeld
              have HBW := HBX
              have RUV := RUX
              have Kg36 := Kg36X
              have Kg38 := Kg38X
              have Kg40 := Kg40X
              clear HBX RUX Kg40X Kg36X Kg38X
              obtain ⟨wr, hwr⟩ : ∃ W : World, W = wX := ⟨_, rfl⟩
              subst hwr
              have k6 := Kg36.out
              have k8 := Kg38.out
              have k0 := Kg40.out
              have f0 := (blk_cell k6 0).trans rfl
              have f1 := (blk_cell k6 1).trans rfl
              have f2 := (blk_cell k8 0).trans rfl
              have f3 := (blk_cell k8 1).trans rfl
              have f4 := (blk_cell k0 0).trans rfl
              have f5 := (blk_cell k0 1).trans rfl
              clear k6 k8 k0
              have e3 := HQ3.out
              go_wp2_with fail
              refine (works_calls _).mono ?_
              rintro e w9 ⟨rfl, hb⟩
              go_wp2
              go_ret
              exact ⟨rfl, HB1.out.trans ((HB4.out.trans ((HBW.out.trans (hb.mono HBW.out.size)).mono HB4.out.size)).mono HB1.out.size)⟩
     | k + 4, HK3 => exact absurd HK3.out (by omega)
  | k + 3, HK, HX => exact absurd HK.out (by omega)

end Go.Proofs.Ythddeillkdediaa.H
