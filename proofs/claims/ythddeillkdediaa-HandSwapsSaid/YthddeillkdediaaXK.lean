/- Texts TA, U7 of this chapter, one behind the other. -/
import Derived.Carry
import Derived.ChangeSlices
import Derived.Laws.IdiomArrays
import Derived.Lib.SmallJoins
import Derived.LoopIn
import Derived.LoopNIn
import Derived.OpenShut
import Derived.OwnWalkIn
import Derived.TacticsInMore
import Derived.WideShapes
import Derived.Test.YthddeillkdediaaXG
import Derived.Test.YthddeillkdediaaXH
import Derived.Test.YthddeillkdediaaXI
import Derived.Test.YthddeillkdediaaXJ

/- Arguments of chapter 10's laws, opened. -/
namespace Go.Proofs.Ythddeillkdediaa.H
open Go.RowKit Go.Proofs.YthddeillkdediaaW.PrintWords Go.Proofs.YthddeillkdediaaW.PrintLast Go.Proofs.YthddeillkdediaaW.PrintMore
open Go.Shelf Go.Proofs.Ythddeillkdediaa.QA
open Go.ChangeShapes Go.WideShapes Go.Joins
set_option linter.unusedVariables false
set_option linter.unusedSimpArgs false


def isByte (a : Int) : Prop := 0 ≤ a ∧ a ≤ 255
theorem wf_byte {a : Int} (h : (Lit.int .u8 a).wf = true) : isByte a := by
 simp [Lit.wf, IntKind.min, IntKind.max, IntKind.signed, IntKind.bits] at h
 unfold isByte
 omega
set_option maxRecDepth 100000 in
theorem trod_nums {H : Type} {enc : TypeId × Value → H} {W : World} {base : Nat} {held : Bool} {fuel : Nat} {v : Value} {x : DataW H × List MemPlace} {t e : TypeId} {k : IntKind}
    (ut : Try.prog.underlying t = some (.slice e)) (ue : Try.prog.underlying e = some (.int k)) (ce : Try.prog.cellsOf e = 1) (hf : DataW.trod enc Try.prog W base (fun _ => true) held fuel t [v] = some x) :
    ∃ (A : Option Addr) (c : Nat) (l : List Int), v = .slice A l.length c ∧ l.length ≤ c ∧ Kd.C (Kd.int k) W A l.length l ∧ ∀ n ∈ l, (Lit.int k n).wf = true := by
  have key : ∃ (A : Option Addr) (len cap : Nat) (zs : List Int), v = .slice A len cap ∧ ((A = none ∧ len = 0 ∧ cap = 0 ∧ zs = []) ∨ ∃ x, A = some x ∧ len ≤ cap ∧ cap ≤ maxLen ∧ zs.length = cap ∧ (∀ i, i < zs.length → W.cell? (x.add i) = some (.int k (zs.getD i 0))) ∧ ∀ n ∈ zs, (Lit.int k n).wf = true) := by
    rcases open_ints ut ue ce hf with ⟨hcs, _⟩ | ⟨x, l, c, zs, hcs, _, hl, hm, hz, _, hcell, hwz⟩
    · simp at hcs
      subst hcs
      exact ⟨none, 0, 0, [], rfl, .inl ⟨rfl, rfl, rfl, rfl⟩⟩
    · simp at hcs
      subst hcs
      exact ⟨_, _, _, zs, rfl, .inr ⟨_, rfl, hl, hm, by simpa using hz, hcell, hwz⟩⟩
  obtain ⟨A, len, cap, zs, rfl, w⟩ := key
  obtain ⟨l, rfl, hr, hm, hw, hc⟩ := ReadsInt.ofRowC w
  exact ⟨A, cap, l, rfl, hc, Kd.C_of_reads (d := (0 : Int)) (h1 := fun _ => rfl) hr, hw⟩
theorem okWide_array {P : Program} {w : World} {r : Reach} {b0 : Nat} {t : TypeId} {v : Value} {n : Nat} {e : TypeId} (ht : P.underlying t = some (.array n e)) (h : Value.okWide P w r b0 t v) : ∃ cs, v = .agg cs ∧ cs.size = P.cellsOf t := by
 simp only [Value.okWide, ht] at h
 obtain ⟨cs, h1, h2, _⟩ := h
 exact ⟨cs, h1, h2⟩
set_option maxRecDepth 100000 in
theorem open_byte_array {H : Type} {enc : TypeId × Value → H} {W : World} {r : Reach} {b0 : Nat} {t n : Nat} {v : Value} {d : DataW H} {p : List MemPlace} (ht : Try.prog.underlying t = some (.array n 5)) (hct : Try.prog.cellsOf t = n)
  (hv : Value.okWide Try.prog W r b0 t v) (h : DataW.Trod enc Try.prog W 0 (fun _ => true) true t v d p) :
  ∃ l : List Int, l.length = n ∧ v = .agg (l.map (Value.int .u8)).toArray ∧ ∀ x ∈ l, isByte x := by
 have e5 : Try.prog.cellsOf 5 = 1 := by kernel_rfl
 have u5 : Try.prog.underlying 5 = some (.int .u8) := by kernel_rfl
 obtain ⟨⟨cs⟩, rfl, hsz⟩ := okWide_array ht hv
 rw [hct] at hsz
 obtain ⟨fuel, hf⟩ := h
 obtain ⟨xs, m, _, _, _, hl, hi⟩ := DataW.trod_array ht hf
 have hcs : cs.length = n := hsz
 have key : ∀ i (hi : i < cs.length), ∃ a, cs[i] = .int .u8 a ∧ isByte a := fun i hlt => by
  have h1 := hi i (by omega)
  have h2 : (Value.cells (Value.agg cs.toArray)).toList = cs := rfl
  rw [h2, e5, Nat.mul_one, List.drop_eq_getElem_cons hlt, List.take_succ_cons, List.take_zero, List.getElem?_eq_getElem (by omega)] at h1
  obtain ⟨a, q, _, wf⟩ := DataW.trod_int u5 h1
  simp only [List.cons.injEq, and_true] at q
  exact ⟨a, q, wf_byte wf⟩
 clear hi hf hv hsz
 refine ⟨(List.range n).map fun i => if hlt : i < cs.length then (key i hlt).choose else 0, by simp, ?_, fun x hx => ?_⟩
 · congr 1
   have : cs = (((List.range n).map fun i => if hlt : i < cs.length then (key i hlt).choose else 0).map (Value.int .u8)) := by
    refine List.ext_getElem (by simp [hcs]) fun i h1 h2 => ?_
    simp only [List.getElem_map, List.getElem_range]
    rw [dif_pos h1]
    exact (key i h1).choose_spec.1
   rw [← this]
 · obtain ⟨i, hi, rfl⟩ := List.mem_map.1 hx
   have hlt : i < cs.length := by have := List.mem_range.1 hi; omega
   simp only [dif_pos hlt]
   exact (key i hlt).choose_spec.2

theorem und49 : Try.prog.underlying 49 = some (.slice 5) := by kernel_rfl
theorem und5 : Try.prog.underlying 5 = some (.int .u8) := by kernel_rfl
theorem und60 : Try.prog.underlying 60 = some (.array 2 5) := by kernel_rfl
theorem array3_ {α : Type} {cs : Array α} (h : cs.size = 3) : ∃ c0 c1 c2, cs = #[c0, c1, c2] := by
 obtain ⟨l⟩ := cs
 match l, h with
 | [c0, c1, c2], _ => exact ⟨c0, c1, c2, rfl⟩
set_option maxRecDepth 100000 in
theorem open_touch {H : Type} {enc : TypeId × Value → H} {W : World} {r : Reach} {b0 : Nat} {v : Value} {d : DataW H} {p : List MemPlace}
  (hv : Value.okWide Try.prog W r b0 51 v) (h : DataW.Trod enc Try.prog W 0 (fun _ => true) true 51 v d p) :
  ∃ A c l B e m x, v = .agg #[.slice A l.length c, .slice B m.length e, .int .u8 x] ∧ (l.length ≤ c ∧ m.length ≤ e) ∧ Kd.C (Kd.int .u8) W A l.length l ∧ Kd.C (Kd.int .u8) W B m.length m ∧ (∀ n ∈ l, isByte n) ∧ (∀ n ∈ m, isByte n) ∧ isByte x := by
 have e51 : Try.prog.cellsOf 51 = 3 := by kernel_rfl
 have e49 : Try.prog.cellsOf 49 = 1 := by kernel_rfl
 have e5 : Try.prog.cellsOf 5 = 1 := by kernel_rfl
 obtain ⟨cs, rfl, hsz⟩ := okWide_struct Try.underlying51 hv
 obtain ⟨c0, c1, c2, rfl⟩ := array3_ (hsz.trans e51)
 obtain ⟨fuel, hf⟩ := h
 obtain ⟨xs, m, _, _, _, hl, hi⟩ := DataW.trod_struct Try.underlying51 hf
 match xs, hl with
 | [y0, y1, y2], _ =>
  have t0 := hi 0 _ rfl
  have t1 := hi 1 _ rfl
  have t2 := hi 2 _ rfl
  replace t0 : DataW.trod enc Try.prog W 0 (fun _ => true) true m 49 [c0] = some y0 := by simpa [Value.cells, e49, e5] using t0
  replace t1 : DataW.trod enc Try.prog W 0 (fun _ => true) true m 49 [c1] = some y1 := by simpa [Value.cells, e49, e5] using t1
  replace t2 : DataW.trod enc Try.prog W 0 (fun _ => true) true m 5 [c2] = some y2 := by simpa [Value.cells, e49, e5] using t2
  obtain ⟨A, c, l, rfl, h1, h2, h3⟩ := trod_nums und49 und5 e5 t0
  obtain ⟨B, e, n, rfl, k1, k2, k3⟩ := trod_nums und49 und5 e5 t1
  obtain ⟨x, r2, _, v2⟩ := DataW.trod_int und5 t2
  simp only [List.cons.injEq, and_true] at r2
  subst r2
  exact ⟨A, c, l, B, e, n, x, rfl, ⟨h1, k1⟩, h2, k2, fun n hn => wf_byte (h3 n hn), fun n hn => wf_byte (k3 n hn), wf_byte v2⟩
set_option maxRecDepth 100000 in
theorem open_two8 {H : Type} {enc : TypeId × Value → H} {W : World} {r : Reach} {b0 : Nat} {v : Value} {d : DataW H} {p : List MemPlace}
  (hv : Value.okWide Try.prog W r b0 60 v) (h : DataW.Trod enc Try.prog W 0 (fun _ => true) true 60 v d p) :
  ∃ x y, v = .agg #[.int .u8 x, .int .u8 y] ∧ isByte x ∧ isByte y := by
 obtain ⟨l, hl, rfl, hb⟩ := open_byte_array (n := 2) (by kernel_rfl) (by kernel_rfl) hv h
 match l, hl with
 | [m0, m1], _ => exact ⟨m0, m1, rfl, hb _ (by simp), hb _ (by simp)⟩

end Go.Proofs.Ythddeillkdediaa.H

/- pianolalaw10.HandSwaps. -/
namespace Go.Proofs.Ythddeillkdediaa.H
open Go.RowKit Go.Proofs.YthddeillkdediaaW.PrintWords Go.Proofs.YthddeillkdediaaW.PrintLast Go.Proofs.YthddeillkdediaaW.PrintMore
open Go.Shelf Go.Proofs.Ythddeillkdediaa.QA
set_option linter.unusedVariables false
set_option linter.unusedSimpArgs false


theorem signed_n (A : Option Addr) (c n : Nat) (a : List Int) (B : Option Addr) (d m : Nat) (b : List Int) (r : Int) (w : World) (hn : n = a.length) (hm : m = b.length) (hr : Kd.C (Kd.int .i64) w A a.length a) (hc : a.length ≤ c) (hr2 : Kd.C (Kd.int .i64) w B b.length b) (hc2 : b.length ≤ d) (h : pianolalaw10_signed.f 40 a b = some r) :
  Calls Try.prog 37 #[.slice A n c, .slice B m d] w fun e w' => e = .returned (.int .i64 r) ∧ Below w.heap.size w w' := by
  subst hn hm
  exact pianolalaw10_signed.calls 40 A c a B d b r w hr hc hr2 hc2 h
theorem paired_n (A : Option Addr) (c n : Nat) (a : List Int) (B : Option Addr) (d m : Nat) (b : List Int) (r1 r2 r3 r4 : Int) (w : World) (hn : n = a.length) (hm : m = b.length) (hr : Kd.C (Kd.int .i64) w A a.length a) (hc : a.length ≤ c) (hr2 : Kd.C (Kd.int .i64) w B b.length b) (hc2 : b.length ≤ d) (h : hand_Paired.f a b = some (r1, r2, r3, r4)) :
  Calls Try.prog 26 #[.slice A n c, .slice B m d] w fun e w' => e = .returned (.tuple #[.int .i64 r1, .agg #[.int .i64 r2, .int .i64 r3], .int .i64 r4]) ∧ Below w.heap.size w w' := by
  subst hn hm
  exact hand_Paired.calls A c a B d b r1 r2 r3 r4 w hr hc hr2 hc2 h
theorem list_ext_rd {l m : List Int} (hl : l.length = m.length) (h : ∀ i : Nat, i < l.length → rd l (i : Int) = rd m (i : Int)) : l = m := by
 refine List.ext_getElem hl fun i h1 h2 => ?_
 have := h i h1
 unfold rd at this
 rw [Int.toNat_natCast, List.getD_eq_getElem?_getD, List.getElem?_eq_getElem h1, List.getD_eq_getElem?_getD, List.getElem?_eq_getElem h2] at this
 exact this
theorem C_take {w : World} {A : Option Addr} {xs : List Int} (h : Kd.C (Kd.int .i64) w A xs.length xs) (m : Nat) : Kd.C (Kd.int .i64) w A (xs.take m).length (xs.take m) := by
 obtain ⟨h1, h2, h3⟩ := h
 have hl : (xs.take m).length = min m xs.length := List.length_take
 refine ⟨rfl, by omega, fun hp => ?_⟩
 obtain ⟨ad, e, hc⟩ := h3 (by omega)
 refine ⟨ad, e, fun j p hj => ?_⟩
 have hjl : j < (xs.take m).length := (List.getElem?_eq_some_iff.1 hj).1
 rw [List.getElem?_take_of_lt (by omega)] at hj
 exact hc j p hj
theorem min2_mn (k k' : IntKind) (x y : Int) : Builtin.min2 (.int k x) (.int k' y) = pure (.int k (mn x y)) := min2_int k k' x y
/-- What a statement on swaps counts. -/
def cntS (a b : List Int) (q : Int → Bool) (n : Nat) : Nat := (List.range n).countP fun s => q (psum (swapA a b s) (swapB a b s))
theorem cntS_succ (a b : List Int) (q : Int → Bool) (n : Nat) : cntS a b q (n + 1) = cntS a b q n + if q (psum (swapA a b n) (swapB a b n)) = true then 1 else 0 := by
 unfold cntS
 rw [List.range_succ, List.countP_append, List.countP_cons, List.countP_nil, Nat.zero_add]
theorem cntS_le (a b : List Int) (q : Int → Bool) (n : Nat) : cntS a b q n ≤ n := by
 unfold cntS
 have := List.countP_le_length (p := fun s => q (psum (swapA a b s) (swapB a b s))) (l := List.range n)
 rw [List.length_range] at this
 exact this
theorem cntS_all (a b : List Int) (hl : a.length = b.length) (q : Int → Bool) : cntS a b q (2 ^ a.length) = 2 ^ (a.length - (dfI (pairsL a b)).length) * (allS (ranksI (dfI (pairsL a b)))).countP q := by
 have hz : (pairsL a b).length = a.length := by unfold pairsL; rw [List.length_zip]; omega
 have hr : (ranksI (dfI (pairsL a b))).length = (dfI (pairsL a b)).length := by unfold ranksI; rw [List.length_map]
 have h := swap_count (pairsL a b) (ranksI (dfI (pairsL a b))) q hr
 rw [hz, hr] at h
 rw [← h]
 unfold cntS
 exact List.countP_congr fun s _ => by rw [swap_psum]
def sw15_T : Bool × List (List Nat × List Nat) := (true, [([], []), ([], []), ([], []), ([], []), ([], []), ([], []), ([4, 5], [4, 5]), ([6], [6]), ([], []), ([], []), ([8, 9], [8, 9]), ([10], [10]), ([0, 1, 0, 1, 4, 5, 6, 7, 11], [0, 1]), ([12, 7, 0, 1, 4, 5, 6, 7, 11], [7, 12]), ([2, 3, 0, 1, 2, 3, 4, 5, 6, 7, 8, 9, 10, 11, 12, 13], [2, 3]), ([14, 11, 13, 0, 1, 2, 3, 4, 5, 6, 7, 8, 9, 10, 11, 12, 13], [11, 14])])
def sw15_B : List Nat := [0, 0, 0, 0, 0, 0, 48, 112, 0, 0, 768, 1792, 4083, 8179, 16383, 32767]
theorem sw15_tab : rtab .any (opsOf Try.f8 15) = sw15_T := by kernel_rfl
theorem sw15_bits : waitsOk sw15_T.2 sw15_B = true := by kernel_rfl
def sw26_T : Bool × List (List Nat × List Nat) := (true, [([], []), ([0], [0]), ([1], [1]), ([2], [2]), ([2], [2]), ([3, 4, 2], [2, 3, 4]), ([2, 5], [2, 5]), ([6, 2], [6]), ([7], [7]), ([7], [7]), ([7], [7]), ([10, 7], [7, 10]), ([8, 9, 11, 7, 7], [7, 8, 9, 11]), ([7, 12], [7, 12]), ([13, 12], [13]), ([14], [14]), ([14], [14]), ([16, 14], [14, 16]), ([15, 17, 14], [14, 15, 17]), ([14], [14]), ([19, 14], [14, 19]), ([14], [14]), ([20, 21, 14], [14, 20, 21]), ([18, 22, 14], [14, 18, 22]), ([14, 23], [14, 23]), ([24, 14], [24]), ([25, 25], [25]), ([25, 26], [25, 26]), ([27, 26, 0, 1, 2, 3, 4, 5, 6, 7, 8, 9, 10, 11, 12, 13, 14, 15, 16, 17, 18, 19, 20, 21, 22, 23, 24, 25, 26, 27], [27])])
def sw26_B : List Nat := [0, 1, 3, 7, 7, 31, 63, 127, 255, 255, 255, 1279, 4095, 8191, 16383, 32767, 32767, 98303, 262143, 32767, 557055, 32767, 3702783, 8388607, 16777215, 33554431, 67108863, 134217727, 268435455]
theorem sw26_tab : rtab .any (opsOf Try.f8 26) = sw26_T := by kernel_rfl
theorem sw26_bits : waitsOk sw26_T.2 sw26_B = true := by kernel_rfl

structure BK2 (g1 g2 : Nat) (v0 v1 p1 p2 : Int) (w : World) : Prop where
  k1 : w.heap[g1]? = some (.cells #[.int .i64 v0, .int .i64 v1] 34 (0, 0))
  k2 : w.heap[g2]? = some (.cells #[.int .i64 p1, .int .i64 p2] 34 (0, 0))
theorem BK2.below {g1 g2 : Nat} {v0 v1 p1 p2 : Int} {w w' : World} (h : BK2 g1 g2 v0 v1 p1 p2 w) (hb : Below w.heap.size w w') : BK2 g1 g2 v0 v1 p1 p2 w' := ⟨blk_below2 hb h.k1, blk_below2 hb h.k2⟩
attribute [local go_sem] min2_mn min_two
set_option maxRecDepth 100000 in
set_option maxHeartbeats 8000000 in
theorem handSwaps_calls (A0 : Option Addr) (c0 : Nat) (l0 : List Int) (A1 : Option Addr) (c1 : Nat) (l1 : List Int) (x v0 v1 : Int) (w : World) (hc : l0.length ≤ c0 ∧ l1.length ≤ c1) (hC0 : Kd.C (Kd.int .u8) w A0 l0.length l0) (hC1 : Kd.C (Kd.int .u8) w A1 l1.length l1) (hl : ∀ n ∈ l0, 0 ≤ n ∧ n ≤ 255) (hm : ∀ n ∈ l1, 0 ≤ n ∧ n ≤ 255) (hx : 0 ≤ x ∧ x ≤ 255) (hv0 : 0 ≤ v0 ∧ v0 ≤ 255) (hv1 : 0 ≤ v1 ∧ v1 ≤ 255) :
  Calls Try.prog 8 #[.agg #[.slice A0 l0.length c0, .slice A1 l1.length c1, .int .u8 x], .agg #[.int .u8 v0, .int .u8 v1]] w fun e w' => e = .returned (.bool true) ∧ Below w.heap.size w w' := by
 have hu51 := Try.underlying51
 have hu34 := Try.underlying34
 have hu60 := und60
 obtain ⟨a, b, hmd, sa, sb⟩ := made_f l0 l1 hl hm x hx 20 (by omega)
 have HB := Aside0.mk (below_alloc (below_alloc (Below.refl w.heap.size w) (.cells #[.slice A0 l0.length c0, .slice A1 l1.length c1, .int .u8 x] 51)) (.cells #[.int .u8 v0, .int .u8 v1] 60))
 have K1 := Aside0.mk (blk_alloc (blk_new w (.cells #[.slice A0 l0.length c0, .slice A1 l1.length c1, .int .u8 x] 51)) (.cells #[.int .u8 v0, .int .u8 v1] 60))
 have K2 := Aside0.mk (blk_new (w.alloc (.cells #[.slice A0 l0.length c0, .slice A1 l1.length c1, .int .u8 x] 51)) (.cells #[.int .u8 v0, .int .u8 v1] 60))
 have hs1 : (w.alloc (.cells #[.slice A0 l0.length c0, .slice A1 l1.length c1, .int .u8 x] 51)).heap.size = w.heap.size + 1 := by simp
 rw [hs1] at K2
 have H0 := Aside0.mk (Kd.C_below hC0 HB.out)
 have H1 := Aside0.mk (Kd.C_below hC1 HB.out)
 have HA := Aside0.mk hc
 have HM := Aside0.mk hmd
 have HS := Aside0.mk (And.intro sa sb)
 have HV := Aside0.mk (And.intro hv0 hv1)
 clear hs1 hC0 hC1 hc hmd hl hm hx sa sb hv0 hv1
 have k0 := (blk_cell K1.out 0).trans rfl
 have k1 := (blk_cell K1.out 1).trans rfl
 have k2 := (blk_cell K1.out 2).trans rfl
 obtain ⟨n, hn⟩ : ∃ n : Nat, n = min a.length b.length := ⟨_, rfl⟩
 have hmn : mn (a.length : Int) (b.length : Int) = (n : Int) := by rw [hn]; unfold mn; split <;> omega
 have hn1 : 1 ≤ n ∧ n ≤ 5 := by have := HS.out.1.1; have := HS.out.1.2.1; have := HS.out.2.1; have := HS.out.2.2.1; omega
 have n1 : n ≤ a.length := by omega
 have n2 : n ≤ b.length := by omega
 have HN := Aside0.mk (And.intro hn1 (And.intro n1 n2))
 clear hn hn1
 go_enter Try.func8, Try.ntmps8
 go_wp2_with fail
 refine (pianolalaw10_Touch_made.calls 20 A0 c0 l0 A1 c1 l1 x a b _ H0.out HA.out.1 H1.out HA.out.2 HM.out).mono ?_
 rintro e w1 ⟨va, vb, rfl, hRa, hRb, hb⟩
 have HB1 := Aside0.mk (HB.out.trans (hb.mono HB.out.size))
 have K3 := Aside0.mk (blk_below2 hb K2.out)
 obtain ⟨Aa, ca, rfl, hca, hCa⟩ := Kd.R_reads hRa
 obtain ⟨Ab, cb, rfl, hcb, hCb⟩ := Kd.R_reads hRb
 obtain ⟨ada, rfl⟩ := C_some hCa (by have := HS.out.1.1; omega)
 obtain ⟨adb, rfl⟩ := C_some hCb (by have := HS.out.2.1; omega)
 have HCa := Aside0.mk (And.intro hca hCa)
 have HCb := Aside0.mk (And.intro hcb hCb)
 clear hb hRa hRb hca hCa hcb hCb k0 k1 k2 K1 K2 H0 H1 HM HB
 have n3 : n ≤ ca := Nat.le_trans n1 HCa.out.1
 have n4 : n ≤ cb := Nat.le_trans n2 HCb.out.1
 obtain ⟨a2, ha2⟩ : ∃ l, l = a.take n := ⟨_, rfl⟩
 obtain ⟨b2, hb2⟩ : ∃ l, l = b.take n := ⟨_, rfl⟩
 have hla : n = a2.length := by rw [ha2, List.length_take]; omega
 have hlb : n = b2.length := by rw [hb2, List.length_take]; omega
 have hbd : Below w1.heap.size w1 w1.drew := pw_below_drewN (Below.refl _ _) 1
 have HCa2 := Aside0.mk (show a2.length ≤ ca ∧ Kd.C (Kd.int .i64) w1.drew (some ada) a2.length a2 from ⟨by omega, by rw [ha2]; exact Kd.C_below (C_take HCa.out.2 n) hbd⟩)
 have HCb2 := Aside0.mk (show b2.length ≤ cb ∧ Kd.C (Kd.int .i64) w1.drew (some adb) b2.length b2 from ⟨by omega, by rw [hb2]; exact Kd.C_below (C_take HCb.out.2 n) hbd⟩)
 have HS2 := Aside0.mk (show SmpOK a2 ∧ SmpOK b2 from ⟨by rw [ha2]; exact HS.out.1.take n HN.out.1.1, by rw [hb2]; exact HS.out.2.take n HN.out.1.1⟩)
 have HLN := Aside0.mk (And.intro hla hlb)
 have K4 := Aside0.mk (blk_below2 hbd K3.out)
 have HB2 := Aside0.mk (below_drew1 HB1.out)
 clear ha2 hb2 hla hlb hbd HCa HCb HS K3 HB1
 go_upto_region 3 with fail
 refine region_quiet_tail 7 (by kernel_rfl) (by kernel_rfl) ?_
 generalize w1.drew = wD at HB2 HCa2 HCb2 K4 ⊢
 simp only [List.take_succ_cons, List.take_zero, List.drop_succ_cons, List.drop_zero]
 iterate 7 go_big_quiet_step (fail)
 refine wpQuiet_nil ?_
 go_step
 clear hmn n1 n2 n3 n4
 have hsg := signed_f a2 b2 (by have := HLN.out; omega) (by have := HLN.out; have := HN.out; omega) (fun x hx => by have := HS2.out.1.2.2 x hx; omega) (fun x hx => by have := HS2.out.2.2.2 x hx; omega) 40 (by omega)
 obtain ⟨own, hown⟩ : ∃ o, o = psum a2 b2 := ⟨_, rfl⟩
 rw [← hown] at hsg
 have HSG := Aside0.mk hsg
 have HOW := Aside0.mk hown
 clear hsg hown
 go_wp2_with fail
 refine (signed_n (some ada) ca n a2 (some adb) cb n b2 own _ HLN.out.1 HLN.out.2 HCa2.out.2 HCa2.out.1 HCb2.out.2 HCb2.out.1 HSG.out).mono ?_
 rintro e w2 ⟨rfl, hb⟩
 have HB3 := Aside0.mk (below_then HB2.out HB2.out.size hb)
 have HCa3 := Aside0.mk (And.intro HCa2.out.1 (Kd.C_below HCa2.out.2 hb))
 have HCb3 := Aside0.mk (And.intro HCb2.out.1 (Kd.C_below HCb2.out.2 hb))
 have K5 := Aside0.mk (blk_below2 hb K4.out)
 clear hb HB2 HCa2 HCb2 K4 HSG
 have c0' := (blk_cell K5.out 0).trans rfl
 have c1' := (blk_cell K5.out 1).trans rfl
 obtain ⟨den, hden⟩ : ∃ den, den = 1 + v1 := ⟨_, rfl⟩
 have hw0 : wrap64 v0 = v0 := w64' _ (by have := HV.out; omega) (by have := HV.out; omega)
 have hw1 : wrap64 v1 = v1 := w64' _ (by have := HV.out; omega) (by have := HV.out; omega)
 have hw2 : wrap64 (1 + v1) = den := by rw [w64' _ (by have := HV.out; omega) (by have := HV.out; omega), hden]
 have HVD := Aside0.mk (show (0 ≤ v0 ∧ v0 ≤ 255) ∧ (1 ≤ den ∧ den ≤ 256) by have := HV.out; omega)
 clear hden
 go_wp2_with fail
 refine (pianolalaw10_part.calls v0 den v0 den _ rfl).mono ?_
 rintro e w3 ⟨rfl, hb⟩
 have HB4 := Aside0.mk (below_then HB3.out HB3.out.size hb)
 have HB5 := Aside0.mk (HB4.out.alloc HB4.out.size (.cells #[.int .i64 v0, .int .i64 den] 34))
 have K7 := Aside0.mk (blk_new w3 (.cells #[.int .i64 v0, .int .i64 den] 34))
 have hba := below_alloc (Below.refl w3.heap.size w3) (.cells #[.int .i64 v0, .int .i64 den] 34)
 have hCa2 := Aside0.mk (Kd.C_below (Kd.C_below HCa3.out.2 hb) hba)
 have hCb2 := Aside0.mk (Kd.C_below (Kd.C_below HCb3.out.2 hb) hba)
 have HCC := Aside0.mk (And.intro HCa3.out.1 HCb3.out.1)
 clear hb hba HCa3 HCb3 K5 HB3 HB4 c0' c1' hw0 hw1 hw2 HV
 go_wp2
 generalize w3.alloc (.cells #[.int .i64 v0, .int .i64 den] 34) = w4 at HB5 K7 hCa2 hCb2 ⊢
 obtain ⟨T, hT⟩ : ∃ T, T = 2 ^ n := ⟨_, rfl⟩
 have hTT : T ≤ 32 := by rw [hT]; exact Nat.le_trans (Nat.pow_le_pow_right (by omega) HN.out.1.2) (by decide)
 have hN64 : n ≤ 64 := by have := HN.out.1; omega
 have hN64b : (n : Int) ≤ 64 := by omega
 have hp : wrap64 ((2 : Int) ^ n) = (T : Int) := by
  have e : (2 : Int) ^ n = (T : Int) := by rw [hT]; push_cast; rfl
  rw [e, w64' _ (by omega) (by omega)]
 have HTF := Aside0.mk (And.intro hT (And.intro hTT (And.intro hN64 (And.intro hN64b hp))))
 obtain ⟨rs, hrs⟩ : ∃ rs, rs = ranksI (dfI (pairsL a2 b2)) := ⟨_, rfl⟩
 obtain ⟨q9, hq9⟩ : ∃ q : Int → Bool, q = fun s => decide (farI own 0 ≤ farI s 0) := ⟨_, rfl⟩
 obtain ⟨OF, hOF⟩ : ∃ OF : Int → Nat, OF = fun y => (allS rs).countP (fun x => decide (farI y 0 ≤ farI x 0)) := ⟨_, rfl⟩
 obtain ⟨L, hL⟩ : ∃ L, L = 2 ^ (dfI (pairsL a2 b2)).length := ⟨_, rfl⟩
 obtain ⟨q10, hq10⟩ : ∃ q : Int → Bool, q = fun s => decide ((OF s : Int) * den ≤ v0 * (L : Int)) := ⟨_, rfl⟩
 have HQ := Aside0.mk (And.intro hq9 (And.intro hq10 (And.intro hOF (And.intro hL hrs))))
 have hdl : (dfI (pairsL a2 b2)).length ≤ n := by
  have h1 := (dfI_len (pairsL a2 b2)).2
  unfold pairsL at h1 ⊢
  rw [List.length_zip] at h1
  have := HLN.out
  omega
 have hLT : L ≤ T := by rw [hL, hT]; exact Nat.pow_le_pow_right (by omega) hdl
 have hL0 : 0 < L := by rw [hL]; exact Nat.pow_pos (by omega)
 have hrl : rs.length = (dfI (pairsL a2 b2)).length := by rw [hrs]; unfold ranksI; rw [List.length_map]
 have hOL : ∀ y, OF y ≤ L := fun y => by
  rw [hOF, hL, ← hrl, ← allS_len]
  exact List.countP_le_length
 have HLL := Aside0.mk (And.intro hdl (And.intro hLT (And.intro hL0 (And.intro hrl hOL))))
 clear hT hTT hN64 hN64b hp hq9 hq10 hOF hL hrs hdl hLT hL0 hrl hOL
 go_loopw [9, 10, 12] (fun s9 s10 s12 wr => ∃ s : Nat, s12 = .int .i64 s ∧ s9 = .int .i64 (cntS a2 b2 q9 s) ∧ s10 = .int .i64 (cntS a2 b2 q10 s) ∧ Aside0 (s ≤ T) ∧ Aside0 (Below w4.heap.size w4 wr)) (fun _ _ s12 _ => T - (intOf s12).toNat)
 case atStart => exact ⟨0, rfl, rfl, rfl, ⟨Nat.zero_le _⟩, ⟨Below.refl _ _⟩⟩
 case round =>
  obtain ⟨s, rfl, rfl, rfl, HI, HBw⟩ := hrel
  have hN64 := HTF.out.2.2.1
  have hN64b := HTF.out.2.2.2.1
  have hp := HTF.out.2.2.2.2
  obtain ⟨wo, hwo⟩ : ∃ W : World, W = wr := ⟨_, rfl⟩
  subst hwo
  by_cases hj : s < T
  · have n1 : s < T := hj
    have hd : decide ((s : Int) < (T : Int)) = true := decide_eq_true (by omega)
    have HIT := Aside0.mk (show s ≤ 32 by have := HTF.out.2.1; omega)
    clear hj
    go_wp2_with (at_builtin; refine Aside0.out ?_)
    refine ⟨?_⟩
    refine wpList_append_OwnI 22 und22 rfl _ _ rfl wo.heap.size (.slice (some ⟨wo.heap.size, 0, none⟩) 0 0) [] a2 rfl (OwnI.empty (Nat.le_refl _)) ada n ca rfl HLN.out.1 (fun j u hu => pw_cell_below (HBw.out.trans ((below_alloc (Below.refl wo.heap.size wo) _).mono HBw.out.size)) (ints_cells hCa2.out j u hu)) (by have := HN.out; simp; omega) (by simp) ?_
    intro v1' w5 hO1 hb1 hg1 ho1
    rw [List.nil_append] at hO1
    obtain ⟨gc, capc, rfl, hgc, hRc, _⟩ := R2.of_own hO1 (fun e => by have := HN.out; have := HLN.out; rw [e] at this; simp at this; omega) (by have := HN.out; have := HLN.out; omega)
    have hbb1 : Below wo.heap.size wo w5 := (below_alloc (Below.refl _ _) _).trans hb1
    have HRc := Aside0.mk hRc
    have HGC := Aside0.mk (And.intro hgc hRc.lt)
    have HB6 := Aside0.mk (HBw.out.trans (hbb1.mono HBw.out.size))
    have HWS := Aside0.mk (show w4.heap.size ≤ wo.heap.size from HBw.out.size)
    clear hO1 hb1 hg1 ho1 hgc hRc hbb1 HBw
    go_wp2_with (at_builtin; refine Aside0.out ?_)
    refine ⟨?_⟩
    refine wpList_append_OwnI 22 und22 rfl _ _ rfl w5.heap.size (.slice (some ⟨w5.heap.size, 0, none⟩) 0 0) [] b2 rfl (OwnI.empty (Nat.le_refl _)) adb n cb rfl HLN.out.2 (fun j u hu => pw_cell_below (HB6.out.trans ((below_alloc (Below.refl w5.heap.size w5) _).mono HB6.out.size)) (ints_cells hCb2.out j u hu)) (by have := HN.out; simp; omega) (by simp) ?_
    intro v2' w6 hO2 hb2 hg2 ho2
    rw [List.nil_append] at hO2
    obtain ⟨gd, capd, rfl, hgd, hRd, _⟩ := R2.of_own hO2 (fun e => by have := HN.out; have := HLN.out; rw [e] at this; simp at this; omega) (by have := HN.out; have := HLN.out; omega)
    have hbb2 : Below w5.heap.size w5 w6 := (below_alloc (Below.refl _ _) _).trans hb2
    have HRc6 := Aside0.mk (HRc.out.below hbb2)
    have HRd6 := Aside0.mk hRd
    have HNE := Aside0.mk (show gc ≠ gd by have := HGC.out.2; omega)
    have HB7 := Aside0.mk (HB6.out.trans (hbb2.mono HB6.out.size))
    have HGG := Aside0.mk (show w4.heap.size ≤ gc ∧ w4.heap.size ≤ gd from ⟨Nat.le_trans HWS.out HGC.out.1, Nat.le_trans HB6.out.size hgd⟩)
    clear hO2 hb2 hg2 ho2 hgd hRd hbb2 HRc HB6 HGC HWS
    rw [← HLN.out.1, ← HLN.out.2]
    go_wp2
    go_loopw [64] (fun s64 wr => ∃ (k : Nat) (L M : List Int), s64 = .int .i64 k ∧ Aside0 (k ≤ n) ∧ Aside0 (L.length = n ∧ M.length = n ∧ (∀ j : Nat, j < n → rd L (j : Int) = if j < k then rd (swapA a2 b2 s) (j : Int) else rd a2 (j : Int)) ∧ (∀ j : Nat, j < n → rd M (j : Int) = if j < k then rd (swapB a2 b2 s) (j : Int) else rd b2 (j : Int))) ∧ Aside0 (R2 wr gc capc L) ∧ Aside0 (R2 wr gd capd M) ∧ Aside0 (Below w4.heap.size w4 wr)) (fun s64 _ => n - (intOf s64).toNat)
    case atStart => exact ⟨0, a2, b2, rfl, ⟨Nat.zero_le _⟩, ⟨HLN.out.1.symm, HLN.out.2.symm, fun j _ => by rw [if_neg (Nat.not_lt_zero _)], fun j _ => by rw [if_neg (Nat.not_lt_zero _)]⟩, HRc6, HRd6, HB7⟩
    case round =>
     clear HRc6 HRd6 HB7
     obtain ⟨k, LL, MM, rfl, HK, HLM, HRc, HRd, HBr⟩ := hrel
     by_cases hk : k < n
     · have n2 : k < n := hk
       have hd2 : decide ((k : Int) < (n : Int)) = true := decide_eq_true (by omega)
       have hk64 : k ≤ 64 := by have := HN.out; omega
       have hk64b : (k : Int) ≤ 64 := by omega
       clear hk
       have hsw := rd_swap a2 b2 s (by have := HLN.out; omega) k (by have := HLN.out; omega)
       have HSW := Aside0.mk hsw
       clear hsw
       have hbit : bits BinOp.and IntKind.i64 ((s : Int) / 2 ^ k) 1 = ((s / 2 ^ k % 2 : Nat) : Int) := by
        have e : (s : Int) / 2 ^ k = ((s / 2 ^ k : Nat) : Int) := by push_cast; rfl
        rw [e]
        exact and_oneN _ (Nat.lt_of_le_of_lt (Nat.div_le_self _ _) (by have := HIT.out; omega))
       by_cases he : s / 2 ^ k % 2 = 1
       · rw [he] at hbit
         have hbit' : bits BinOp.and IntKind.i64 ((s : Int) / 2 ^ k) 1 = 1 := hbit
         clear hbit
         go_upto_region 15 with fail
         have hbd : Below wr.heap.size wr wr.drew := below_drew (Below.refl wr.heap.size wr)
         have HRcD := Aside0.mk (HRc.out.below hbd)
         have HRdD := Aside0.mk (HRd.out.below hbd)
         have HBD := Aside0.mk (below_drew1 HBr.out)
         have ea : rd LL (k : Int) = rd a2 (k : Int) := by rw [HLM.out.2.2.1 k n2, if_neg (Nat.lt_irrefl k)]
         have eb : rd MM (k : Int) = rd b2 (k : Int) := by rw [HLM.out.2.2.2 k n2, if_neg (Nat.lt_irrefl k)]
         have lL : k < LL.length := by rw [HLM.out.1]; exact n2
         have lM : k < MM.length := by rw [HLM.out.2.1]; exact n2
         have f0 := (HRcD.out.cell k lL).1
         have f1 := (HRcD.out.cell k lL).2
         have f2 := (HRdD.out.cell k lM).1
         have hr3 := HRcD.out.put k lL (rd b2 (k : Int))
         have hr4 := HRdD.out.far gc k (.int .i64 (rd b2 (k : Int))) (Ne.symm HNE.out)
         have f3 := (hr4.cell k lM).1
         have f4 := (hr4.cell k lM).2
         have hr5 := hr3.far gd k (.int .i64 (rd a2 (k : Int))) HNE.out
         have hr6 := hr4.put k lM (rd a2 (k : Int))
         rw [ea] at f0
         rw [eb] at f2 f3
         have HR5 := Aside0.mk hr5
         have HR6 := Aside0.mk hr6
         have HB6 := Aside0.mk (below_set (g := gd) (j := k) (v := .int .i64 (rd a2 (k : Int))) (below_set (g := gc) (j := k) (v := .int .i64 (rd b2 (k : Int))) HBD.out HGG.out.1) HGG.out.2)
         clear ea eb lL lM hr3 hr4 hr5 hr6 hbd HRcD HRdD HBD HRc HRd HBr
         have HF := Aside0.mk (And.intro f1 (And.intro f3 f4))
         have HHS := Aside0.mk (And.intro f0 f2)
         clear f0 f1 f2 f3 f4
         refine start_ (n := 16) (S := fun w' => w'.cell? ⟨gc, k, none⟩ = some (.int .i64 (rd a2 (k : Int))) ∧ w'.cell? ⟨gd, k, none⟩ = some (.int .i64 (rd b2 (k : Int)))) (ds := [13, 15]) #[false, false, false, false, false, false, false, false, false, false, false, false, false, false, false, false] (by kernel_rfl) rfl rfl HHS.out (fun hHeld => ?_)
         refine with_tabW sw15_tab sw15_bits (fun HT_ HW_ => ?_)
         have hfr := HF.out
         generalize wr.drew = wD at hfr hHeld HR5 HR6 HB6 HHS ⊢
         obtain ⟨f1, f3, f4⟩ := hfr
         refine take_ (i := 0) (N := some 72) (v := ?_) (a' := ?_) #[true, false, false, false, false, false, false, false, false, false, false, false, false, false, false, false] rfl rfl (take_ofW HT_.out HW_.out (by kernel_rfl)) (fun _ _ _ h => h) (Or.inl ⟨by rfl, ?_⟩) hHeld ?_ ?_
         rotate_left
         · rintro w' ⟨s0, s1⟩
           go_simp
           with_reducible rfl
         rotate_left
         · simp only [Act.put, List.setIfInBounds_toArray, List.set_cons_zero, List.set_cons_succ, i64_w, i32_w]
           rfl
         refine take_ (i := 1) (N := some 73) (v := ?_) (a' := ?_) #[true, true, false, false, false, false, false, false, false, false, false, false, false, false, false, false] rfl rfl (take_ofW HT_.out HW_.out (by kernel_rfl)) (fun _ _ _ h => h) (Or.inl ⟨by rfl, ?_⟩) hHeld ?_ ?_
         rotate_left
         · rintro w' ⟨s0, s1⟩
           go_simp
           with_reducible rfl
         rotate_left
         · simp only [Act.put, List.setIfInBounds_toArray, List.set_cons_zero, List.set_cons_succ, i64_w, i32_w]
           rfl
         refine pure_ (i := 2) (N := some 74) (v := ?_) (a' := ?_) #[true, true, true, false, false, false, false, false, false, false, false, false, false, false, false, false] rfl rfl (any_of HT_.out (by kernel_rfl)) (fun _ _ _ h => h) (Or.inl ⟨by rfl, ?_⟩) ?_ ?_
         rotate_left
         · intro w'
           go_simp
           with_reducible rfl
         rotate_left
         · simp only [Act.put, List.setIfInBounds_toArray, List.set_cons_zero, List.set_cons_succ, i64_w, i32_w]
           rfl
         refine pure_ (i := 3) (N := some 75) (v := ?_) (a' := ?_) #[true, true, true, true, false, false, false, false, false, false, false, false, false, false, false, false] rfl rfl (any_of HT_.out (by kernel_rfl)) (fun _ _ _ h => h) (Or.inl ⟨by rfl, ?_⟩) ?_ ?_
         rotate_left
         · intro w'
           go_simp
           with_reducible rfl
         rotate_left
         · simp only [Act.put, List.setIfInBounds_toArray, List.set_cons_zero, List.set_cons_succ, i64_w, i32_w]
           rfl
         refine take_ (i := 4) (N := some 76) (v := ?_) (a' := ?_) #[true, true, true, true, true, false, false, false, false, false, false, false, false, false, false, false] rfl rfl (take_ofW HT_.out HW_.out (by kernel_rfl)) (fun _ _ _ h => h) (Or.inl ⟨by rfl, ?_⟩) hHeld ?_ ?_
         rotate_left
         · rintro w' ⟨s0, s1⟩
           go_simp
           with_reducible rfl
         rotate_left
         · simp only [Act.put, List.setIfInBounds_toArray, List.set_cons_zero, List.set_cons_succ, i64_w, i32_w]
           rfl
         refine take_ (i := 5) (N := some 77) (v := ?_) (a' := ?_) #[true, true, true, true, true, true, false, false, false, false, false, false, false, false, false, false] rfl rfl (take_ofW HT_.out HW_.out (by kernel_rfl)) (fun _ _ _ h => h) (Or.inl ⟨by rfl, ?_⟩) hHeld ?_ ?_
         rotate_left
         · rintro w' ⟨s0, s1⟩
           go_simp
           with_reducible rfl
         rotate_left
         · simp only [Act.put, List.setIfInBounds_toArray, List.set_cons_zero, List.set_cons_succ, i64_w, i32_w]
           rfl
         refine take_ (i := 6) (N := some 78) (v := ?_) (a' := ?_) #[true, true, true, true, true, true, true, false, false, false, false, false, false, false, false, false] rfl rfl (take_ofW HT_.out HW_.out (by kernel_rfl)) (fun _ _ _ h => h) (Or.inl ⟨by rfl, ?_⟩) hHeld ?_ ?_
         rotate_left
         · rintro w' ⟨s0, s1⟩
           go_simp
           with_reducible rfl
         rotate_left
         · simp only [Act.put, List.setIfInBounds_toArray, List.set_cons_zero, List.set_cons_succ, i64_w, i32_w]
           rfl
         refine take_ (i := 7) (N := some 79) (v := ?_) (a' := ?_) #[true, true, true, true, true, true, true, true, false, false, false, false, false, false, false, false] rfl rfl (take_ofW HT_.out HW_.out (by kernel_rfl)) (fun _ _ _ h => h) (Or.inl ⟨by rfl, ?_⟩) hHeld ?_ ?_
         rotate_left
         · rintro w' ⟨s0, s1⟩
           go_simp
           with_reducible rfl
         rotate_left
         · simp only [Act.put, List.setIfInBounds_toArray, List.set_cons_zero, List.set_cons_succ, i64_w, i32_w]
           rfl
         refine take_ (i := 8) (N := some 80) (v := ?_) (a' := ?_) #[true, true, true, true, true, true, true, true, true, false, false, false, false, false, false, false] rfl rfl (take_ofW HT_.out HW_.out (by kernel_rfl)) (fun _ _ _ h => h) (Or.inl ⟨by rfl, ?_⟩) hHeld ?_ ?_
         rotate_left
         · rintro w' ⟨s0, s1⟩
           go_simp
           with_reducible rfl
         rotate_left
         · simp only [Act.put, List.setIfInBounds_toArray, List.set_cons_zero, List.set_cons_succ, i64_w, i32_w]
           rfl
         refine take_ (i := 9) (N := some 81) (v := ?_) (a' := ?_) #[true, true, true, true, true, true, true, true, true, true, false, false, false, false, false, false] rfl rfl (take_ofW HT_.out HW_.out (by kernel_rfl)) (fun _ _ _ h => h) (Or.inl ⟨by rfl, ?_⟩) hHeld ?_ ?_
         rotate_left
         · rintro w' ⟨s0, s1⟩
           go_simp
           with_reducible rfl
         rotate_left
         · simp only [Act.put, List.setIfInBounds_toArray, List.set_cons_zero, List.set_cons_succ, i64_w, i32_w]
           rfl
         refine take_ (i := 10) (N := some 82) (v := ?_) (a' := ?_) #[true, true, true, true, true, true, true, true, true, true, true, false, false, false, false, false] rfl rfl (take_ofW HT_.out HW_.out (by kernel_rfl)) (fun _ _ _ h => h) (Or.inl ⟨by rfl, ?_⟩) hHeld ?_ ?_
         rotate_left
         · rintro w' ⟨s0, s1⟩
           go_simp
           with_reducible rfl
         rotate_left
         · simp only [Act.put, List.setIfInBounds_toArray, List.set_cons_zero, List.set_cons_succ, i64_w, i32_w]
           rfl
         refine take_ (i := 11) (N := some 83) (v := ?_) (a' := ?_) #[true, true, true, true, true, true, true, true, true, true, true, true, false, false, false, false] rfl rfl (take_ofW HT_.out HW_.out (by kernel_rfl)) (fun _ _ _ h => h) (Or.inl ⟨by rfl, ?_⟩) hHeld ?_ ?_
         rotate_left
         · rintro w' ⟨s0, s1⟩
           go_simp
           with_reducible rfl
         rotate_left
         · simp only [Act.put, List.setIfInBounds_toArray, List.set_cons_zero, List.set_cons_succ, i64_w, i32_w]
           rfl
         refine take_ (i := 12) (N := some 84) (v := ?_) (a' := ?_) #[true, true, true, true, true, true, true, true, true, true, true, true, true, false, false, false] rfl rfl (take_ofW HT_.out HW_.out (by kernel_rfl)) (fun _ _ _ h => h) (Or.inl ⟨by rfl, ?_⟩) hHeld ?_ ?_
         rotate_left
         · rintro w' ⟨s0, s1⟩
           go_simp
           with_reducible rfl
         rotate_left
         · simp only [Act.put, List.setIfInBounds_toArray, List.set_cons_zero, List.set_cons_succ, i64_w, i32_w]
           rfl
         have h0 := hHeld.1
         have h2 := hHeld.2
         refine last_ (i := 13) (N := none) #[true, true, true, true, true, true, true, true, true, true, true, true, true, true, false, false] rfl rfl (one_of HT_.out (by kernel_rfl)) (by decide) (fun K hK => ?_)
         refine store_step (by rfl) rfl (w1 := wD.setCell ⟨gc, k, none⟩ (.int .i64 (rd b2 (k : Int)))) ?hr ?_
         (case hr => first | (go_simp; done) | (go_simp; rfl))
         refine hK.out _ _ ?_
         clear hK K
         clear h0 h2 hHeld
         refine pure_ (i := 14) (N := some 85) (v := ?_) (a' := ?_) #[true, true, true, true, true, true, true, true, true, true, true, true, true, true, true, false] rfl rfl (any_of HT_.out (by kernel_rfl)) (fun _ _ _ h => h) (Or.inl ⟨by rfl, ?_⟩) ?_ ?_
         rotate_left
         · intro w'
           go_simp
           with_reducible rfl
         rotate_left
         · simp only [Act.put, List.setIfInBounds_toArray, List.set_cons_zero, List.set_cons_succ, i64_w, i32_w]
           rfl
         refine last_ (i := 15) (N := none) #[true, true, true, true, true, true, true, true, true, true, true, true, true, true, true, true] rfl rfl (one_of HT_.out (by kernel_rfl)) (by decide) (fun K hK => ?_)
         refine store_step (by rfl) rfl (w1 := (wD.setCell ⟨gc, k, none⟩ (.int .i64 (rd b2 (k : Int)))).setCell ⟨gd, k, none⟩ (.int .i64 (rd a2 (k : Int)))) ?hr ?_
         (case hr => first | (go_simp; done) | (go_simp; rfl))
         refine hK.out _ _ ?_
         clear hK K
         refine done_ (done_of HT_.out (by kernel_rfl)) ?_
         clear f1 f3 f4 HT_ HW_
         go_wp2
         generalize (wD.setCell ⟨gc, k, none⟩ (.int .i64 (rd b2 (k : Int)))).setCell ⟨gd, k, none⟩ (.int .i64 (rd a2 (k : Int))) = wE at HR5 HR6 HB6 ⊢
         refine ⟨⟨k + 1, _, _, (by first | exact congrArg _ (wrap_up k (by omega)) | rfl), ⟨n2⟩, ⟨by rw [List.length_set]; exact HLM.out.1, by rw [List.length_set]; exact HLM.out.2.1, fun j hj => ?_, fun j hj => ?_⟩, HR5, HR6, HB6⟩, ?_⟩
         · rw [rd_setN LL k _ j (by rw [HLM.out.1]; exact hj)]
           by_cases e : k = j
           · rw [if_pos e, ← e, if_pos (by omega), HSW.out.1, if_pos he]
           · rw [if_neg e, HLM.out.2.2.1 j hj]
             by_cases e2 : j < k
             · rw [if_pos e2, if_pos (by omega)]
             · rw [if_neg e2, if_neg (by omega)]
         · rw [rd_setN MM k _ j (by rw [HLM.out.2.1]; exact hj)]
           by_cases e : k = j
           · rw [if_pos e, ← e, if_pos (by omega), HSW.out.2, if_pos he]
           · rw [if_neg e, HLM.out.2.2.2 j hj]
             by_cases e2 : j < k
             · rw [if_pos e2, if_pos (by omega)]
             · rw [if_neg e2, if_neg (by omega)]
         · first | (rw [wrap_up k (by omega)]; exact meas_up n k n2) | exact meas_up n k n2
       · have he0 : s / 2 ^ k % 2 = 0 := by omega
         rw [he0] at hbit
         have hbit' : bits BinOp.and IntKind.i64 ((s : Int) / 2 ^ k) 1 = 0 := hbit
         have HE0 := Aside0.mk he
         clear hbit he he0
         go_wp2
         refine ⟨⟨k + 1, LL, MM, (by first | exact congrArg _ (wrap_up k (by omega)) | rfl), ⟨n2⟩, ⟨HLM.out.1, HLM.out.2.1, fun j hj => ?_, fun j hj => ?_⟩, HRc, HRd, HBr⟩, ?_⟩
         · rw [HLM.out.2.2.1 j hj]
           by_cases e : k = j
           · rw [← e, if_neg (Nat.lt_irrefl k), if_pos (by omega), HSW.out.1, if_neg HE0.out]
           · by_cases e2 : j < k
             · rw [if_pos e2, if_pos (by omega)]
             · rw [if_neg e2, if_neg (by omega)]
         · rw [HLM.out.2.2.2 j hj]
           by_cases e : k = j
           · rw [← e, if_neg (Nat.lt_irrefl k), if_pos (by omega), HSW.out.2, if_neg HE0.out]
           · by_cases e2 : j < k
             · rw [if_pos e2, if_pos (by omega)]
             · rw [if_neg e2, if_neg (by omega)]
         · first | (rw [wrap_up k (by omega)]; exact meas_up n k n2) | exact meas_up n k n2
     · have hkn : k = n := by have := HK.out; omega
       subst hkn
       have hd2 : decide ((k : Int) < (k : Int)) = false := decide_eq_false (by omega)
       have hsl := swapAB_len a2 b2 s (by have := HLN.out; omega)
       have eL : LL = swapA a2 b2 s := list_ext_rd (by rw [HLM.out.1, hsl.1]; exact HLN.out.1) (fun j hj => by rw [HLM.out.2.2.1 j (by rw [← HLM.out.1]; exact hj), if_pos (by rw [← HLM.out.1]; exact hj)])
       have eM : MM = swapB a2 b2 s := list_ext_rd (by rw [HLM.out.2.1, hsl.2]; exact HLN.out.1) (fun j hj => by rw [HLM.out.2.2.2 j (by rw [← HLM.out.2.1]; exact hj), if_pos (by rw [← HLM.out.2.1]; exact hj)])
       have hlL : LL.length = k := HLM.out.1
       have hlM : MM.length = k := HLM.out.2.1
       have hm := swap_mem a2 b2 s (by have := HLN.out; omega)
       rw [← eL, ← eM] at hm
       have hk5 := HN.out.1
       have sL : SmpOK LL := SmpOK.of_mem HS2.out.1 HS2.out.2 hm.1 (by omega) (by omega)
       have sM : SmpOK MM := SmpOK.of_mem HS2.out.1 HS2.out.2 hm.2 (by omega) (by omega)
       obtain ⟨sm, hsm⟩ : ∃ v, v = psum (swapA a2 b2 s) (swapB a2 b2 s) := ⟨_, rfl⟩
       have hsm2 : sm = psum LL MM := by rw [hsm, ← eL, ← eM]
       have hsg := signed_f LL MM (by omega) (by omega) (fun x hx => by have := sL.2.2 x hx; omega) (fun x hx => by have := sM.2.2 x hx; omega) 40 (by omega)
       rw [← hsm2] at hsg
       have hsb : -1000 ≤ sm ∧ sm ≤ 1000 := by
        have hd := dfI_len (pairsL LL MM)
        have hz : (pairsL LL MM).length ≤ 5 := by unfold pairsL; rw [List.length_zip]; omega
        have := dotI_in 11 (sgI (pairsL LL MM)) (ranksI (dfI (pairsL LL MM))) (sgI_in _) (fun r hr => by
         obtain ⟨x, _, rfl⟩ := List.mem_map.1 hr
         have := rankI_in (dfI (pairsL LL MM)) x
         omega) (by omega)
        have e : (ranksI (dfI (pairsL LL MM))).length = (dfI (pairsL LL MM)).length := by unfold ranksI; rw [List.length_map]
        rw [e] at this
        rw [hsm2]
        unfold psum
        omega
       have hob : -1000 ≤ own ∧ own ≤ 1000 := by
        have hd := dfI_len (pairsL a2 b2)
        have hz := HLL.out.1
        have := dotI_in 11 (sgI (pairsL a2 b2)) (ranksI (dfI (pairsL a2 b2))) (sgI_in _) (fun r hr => by
         obtain ⟨x, _, rfl⟩ := List.mem_map.1 hr
         have := rankI_in (dfI (pairsL a2 b2)) x
         omega) (by omega)
        have e : (ranksI (dfI (pairsL a2 b2))).length = (dfI (pairsL a2 b2)).length := by unfold ranksI; rw [List.length_map]
        rw [e] at this
        rw [HOW.out]
        unfold psum
        omega
       have hch : pchance LL MM = lowI (OF sm) L := by
        rw [eL, eM, swap_chance, HQ.out.2.2.2.1, HQ.out.2.2.1, HQ.out.2.2.2.2, hsm]
       have hlf := lowI_facts (OF sm) L HLL.out.2.2.1 (HLL.out.2.2.2.2 _)
       have hle := lowI_le (OF sm) L HLL.out.2.2.1 v0 den
       rw [← hch] at hlf hle
       obtain ⟨p1, hp1⟩ : ∃ p, p = (pchance LL MM).1 := ⟨_, rfl⟩
       obtain ⟨p2, hp2⟩ : ∃ p, p = (pchance LL MM).2 := ⟨_, rfl⟩
       rw [← hp1, ← hp2] at hlf hle
       have hLT := HLL.out.2.1
       have hT32 := HTF.out.2.1
       have hP1 : 1 ≤ p2 ∧ p2 ≤ 32 ∧ 0 ≤ p1 ∧ p1 ≤ 32 ∧ p1 ≤ p2 ∧ p2 ≤ (T : Int) := by omega
       have hm1 := mul_in (x := p1) (y := den) (p := 32) (q := 256) (by omega) (by have := HVD.out; omega)
       have hm2 := mul_in (x := v0) (y := p2) (p := 255) (q := 32) (by have := HVD.out; omega) (by omega)
       have hw1 : wrap64 (p1 * den) = p1 * den := w64' _ (by omega) (by omega)
       have hw2 : wrap64 (v0 * p2) = v0 * p2 := w64' _ (by omega) (by omega)
       have HE := Aside0.mk (show hand_Paired.f LL MM = some (sm, p1, p2, 0) by
        unfold hand_Paired.f
        rw [if_pos (smp_both sL sM), if_pos (by omega), ← hp1, ← hp2, ← hsm2])
       have HF1 := Aside0.mk (lfar_f sm 0 (by omega) (by omega))
       have HF2 := Aside0.mk (lfar_f own 0 (by omega) (by omega))
       obtain ⟨f1, hf1⟩ : ∃ f, f = farI sm 0 := ⟨_, rfl⟩
       obtain ⟨f2, hf2⟩ : ∃ f, f = farI own 0 := ⟨_, rfl⟩
       rw [← hf1] at HF1
       rw [← hf2] at HF2
       have hk9 := cntS_succ a2 b2 q9 s
       have hk10 := cntS_succ a2 b2 q10 s
       rw [← hsm] at hk9 hk10
       have hq9v : q9 sm = decide (f2 ≤ f1) := by rw [HQ.out.1, hf1, hf2]
       have hq10v : q10 sm = decide ((OF sm : Int) * den ≤ v0 * (L : Int)) := by rw [HQ.out.2.1]
       rw [hq9v] at hk9
       rw [hq10v] at hk10
       simp only [decide_eq_true_eq] at hk9 hk10
       have hc9 := cntS_le a2 b2 q9 s
       have hc10 := cntS_le a2 b2 q10 s
       have HK := Aside0.mk (And.intro hk9 (And.intro hk10 (And.intro hle (And.intro hc9 (And.intro hc10 HIT.out)))))
       have HPB := Aside0.mk hP1
       have HW := Aside0.mk (And.intro hw1 hw2)
       have HSGN := Aside0.mk hsg
       have HLK := Aside0.mk (And.intro hlL.symm hlM.symm)
       clear hsl eL eM hlL hlM hm hk5 sL sM hsm hsm2 hsg hsb hob hch hlf hle hp1 hp2 hLT hT32 hP1 hm1 hm2 hw1 hw2 hf1 hf2 hk9 hk10 hq9v hq10v hc9 hc10
       clear hk
       go_wp2_with fail
       refine (signed_n (some ⟨gc, 0, none⟩) capc k LL (some ⟨gd, 0, none⟩) capd k MM sm _ HLK.out.1 HLK.out.2 HRc.out.C HRc.out.le.1 HRd.out.C HRd.out.le.1 HSGN.out).mono ?_
       rintro e w7 ⟨rfl, hb⟩
       have HRc7 := Aside0.mk (HRc.out.below hb)
       have HRd7 := Aside0.mk (HRd.out.below hb)
       have HB8 := Aside0.mk (below_then HBr.out HBr.out.size hb)
       clear hb HRc HRd HBr hd2
       go_wp2_with fail
       refine (pianolalaw10_far.calls sm 0 f1 _ HF1.out).mono ?_
       rintro e w8 ⟨rfl, hb⟩
       have HRc8 := Aside0.mk (HRc7.out.below hb)
       have HRd8 := Aside0.mk (HRd7.out.below hb)
       have HB9 := Aside0.mk (below_then HB8.out HB8.out.size hb)
       clear hb HRc7 HRd7 HB8
       go_wp2_with fail
       refine (pianolalaw10_far.calls own 0 f2 _ HF2.out).mono ?_
       rintro e w9 ⟨rfl, hb⟩
       have HRc9 := Aside0.mk (HRc8.out.below hb)
       have HRd9 := Aside0.mk (HRd8.out.below hb)
       have HB10 := Aside0.mk (below_then HB9.out HB9.out.size hb)
       clear hb HRc8 HRd8 HB9
       by_cases hf : f2 ≤ f1
       · have z1 : decide (f2 ≤ f1) = true := decide_eq_true hf
         have u9 : wrap64 ((cntS a2 b2 q9 s : Int) + 1) = (cntS a2 b2 q9 (s + 1) : Int) := by
           have h := HK.out
           rw [if_pos hf] at h
           rw [h.1, w64' _ (by omega) (by omega)]
           push_cast
           rfl
         have HU9 := Aside0.mk u9
         clear u9
         go_wp2_with fail
         refine (paired_n (some ⟨gc, 0, none⟩) capc k LL (some ⟨gd, 0, none⟩) capd k MM sm p1 p2 0 _ HLK.out.1 HLK.out.2 HRc9.out.C HRc9.out.le.1 HRd9.out.C HRd9.out.le.1 HE.out).mono ?_
         rintro e w10 ⟨rfl, hb⟩
         have HB11 := Aside0.mk (below_then HB10.out HB10.out.size hb)
         clear hb HRc9 HRd9 HB10
         have HB12 := Aside0.mk (HB11.out.alloc HB11.out.size (.cells #[.int .i64 p1, .int .i64 p2] 34))
         have K18 := Aside0.mk (blk_new w10 (.cells #[.int .i64 p1, .int .i64 p2] 34))
         go_upto_region 21 with fail
         obtain ⟨g18, hg18⟩ : ∃ g, g = w10.heap.size := ⟨_, rfl⟩
         rw [← hg18] at K18 ⊢
         generalize w10.alloc (.cells #[.int .i64 p1, .int .i64 p2] 34) = w11 at HB12 K18 ⊢
         have hbd : Below w11.heap.size w11 w11.drew := below_drew (Below.refl w11.heap.size w11)
         have K19 := Aside0.mk (blk_below2 hbd K18.out)
         have HB13 := Aside0.mk (below_drew1 HB12.out)
         clear hbd K18 HB12 HB11 hg18
         have g0 := (blk_cell K19.out 0).trans rfl
         have g1 := (blk_cell K19.out 1).trans rfl
         have y1 : decide (p2 < 1) = false := decide_eq_false (by have := HPB.out; omega)
         have y2 : decide ((T : Int) < p2) = false := decide_eq_false (by have := HPB.out; omega)
         have y3 : decide (p1 < 0) = false := decide_eq_false (by have := HPB.out; omega)
         have y4 : decide (p2 < p1) = false := decide_eq_false (by have := HPB.out; omega)
         refine region_quiet_tail 30 (by kernel_rfl) (by kernel_rfl) ?_
         generalize w11.drew = wD at g0 g1 K19 HB13 ⊢
         simp only [List.take_succ_cons, List.take_zero, List.drop_succ_cons, List.drop_zero]
         iterate 30 go_big_quiet_step (fail)
         refine wpQuiet_nil ?_
         have K7y := Aside0.mk (blk_below2 HB13.out K7.out)
         have h0 := (blk_cell K7y.out 0).trans rfl
         have h1 := (blk_cell K7y.out 1).trans rfl
         have hw1 := HW.out.1
         have hw2 := HW.out.2
         by_cases hq : p1 * den ≤ v0 * p2
         · have z5 : decide (p1 * den ≤ v0 * p2) = true := decide_eq_true hq
           have u10 : wrap64 ((cntS a2 b2 q10 s : Int) + 1) = (cntS a2 b2 q10 (s + 1) : Int) := by
             have h := HK.out
             rw [if_pos (h.2.2.1.1 hq)] at h
             rw [h.2.1, w64' _ (by omega) (by omega)]
             push_cast
             rfl
           have HU10 := Aside0.mk u10
           clear u10
           go_wp2
           refine ⟨⟨s + 1, congrArg _ (wrap_up s (by have := HIT.out; omega)), congrArg _ HU9.out, congrArg _ HU10.out, ⟨n1⟩, HB13⟩, ?_⟩
           rw [wrap_up s (by have := HIT.out; omega)]; exact meas_up T s n1
         · have z5 : decide (p1 * den ≤ v0 * p2) = false := decide_eq_false hq
           have u10 : cntS a2 b2 q10 s = cntS a2 b2 q10 (s + 1) := by
             have h := HK.out
             rw [if_neg (fun e => hq (h.2.2.1.2 e))] at h
             rw [h.2.1, Nat.add_zero]
           have HU10 := Aside0.mk u10
           clear u10
           go_wp2
           refine ⟨⟨s + 1, congrArg _ (wrap_up s (by have := HIT.out; omega)), congrArg _ HU9.out, congrArg (fun m : Nat => Value.int .i64 (m : Int)) HU10.out, ⟨n1⟩, HB13⟩, ?_⟩
           rw [wrap_up s (by have := HIT.out; omega)]; exact meas_up T s n1
       · have z1 : decide (f2 ≤ f1) = false := decide_eq_false hf
         have u9 : cntS a2 b2 q9 s = cntS a2 b2 q9 (s + 1) := by
           have h := HK.out
           rw [if_neg hf] at h
           rw [h.1, Nat.add_zero]
         have HU9 := Aside0.mk u9
         clear u9
         go_wp2_with fail
         refine (paired_n (some ⟨gc, 0, none⟩) capc k LL (some ⟨gd, 0, none⟩) capd k MM sm p1 p2 0 _ HLK.out.1 HLK.out.2 HRc9.out.C HRc9.out.le.1 HRd9.out.C HRd9.out.le.1 HE.out).mono ?_
         rintro e w10 ⟨rfl, hb⟩
         have HB11 := Aside0.mk (below_then HB10.out HB10.out.size hb)
         clear hb HRc9 HRd9 HB10
         have HB12 := Aside0.mk (HB11.out.alloc HB11.out.size (.cells #[.int .i64 p1, .int .i64 p2] 34))
         have K18 := Aside0.mk (blk_new w10 (.cells #[.int .i64 p1, .int .i64 p2] 34))
         go_upto_region 21 with fail
         obtain ⟨g18, hg18⟩ : ∃ g, g = w10.heap.size := ⟨_, rfl⟩
         rw [← hg18] at K18 ⊢
         generalize w10.alloc (.cells #[.int .i64 p1, .int .i64 p2] 34) = w11 at HB12 K18 ⊢
         have hbd : Below w11.heap.size w11 w11.drew := below_drew (Below.refl w11.heap.size w11)
         have K19 := Aside0.mk (blk_below2 hbd K18.out)
         have HB13 := Aside0.mk (below_drew1 HB12.out)
         clear hbd K18 HB12 HB11 hg18
         have g0 := (blk_cell K19.out 0).trans rfl
         have g1 := (blk_cell K19.out 1).trans rfl
         have y1 : decide (p2 < 1) = false := decide_eq_false (by have := HPB.out; omega)
         have y2 : decide ((T : Int) < p2) = false := decide_eq_false (by have := HPB.out; omega)
         have y3 : decide (p1 < 0) = false := decide_eq_false (by have := HPB.out; omega)
         have y4 : decide (p2 < p1) = false := decide_eq_false (by have := HPB.out; omega)
         refine region_quiet_tail 30 (by kernel_rfl) (by kernel_rfl) ?_
         generalize w11.drew = wD at g0 g1 K19 HB13 ⊢
         simp only [List.take_succ_cons, List.take_zero, List.drop_succ_cons, List.drop_zero]
         iterate 30 go_big_quiet_step (fail)
         refine wpQuiet_nil ?_
         have K7y := Aside0.mk (blk_below2 HB13.out K7.out)
         have h0 := (blk_cell K7y.out 0).trans rfl
         have h1 := (blk_cell K7y.out 1).trans rfl
         have hw1 := HW.out.1
         have hw2 := HW.out.2
         by_cases hq : p1 * den ≤ v0 * p2
         · have z5 : decide (p1 * den ≤ v0 * p2) = true := decide_eq_true hq
           have u10 : wrap64 ((cntS a2 b2 q10 s : Int) + 1) = (cntS a2 b2 q10 (s + 1) : Int) := by
             have h := HK.out
             rw [if_pos (h.2.2.1.1 hq)] at h
             rw [h.2.1, w64' _ (by omega) (by omega)]
             push_cast
             rfl
           have HU10 := Aside0.mk u10
           clear u10
           go_wp2
           refine ⟨⟨s + 1, congrArg _ (wrap_up s (by have := HIT.out; omega)), congrArg (fun m : Nat => Value.int .i64 (m : Int)) HU9.out, congrArg _ HU10.out, ⟨n1⟩, HB13⟩, ?_⟩
           rw [wrap_up s (by have := HIT.out; omega)]; exact meas_up T s n1
         · have z5 : decide (p1 * den ≤ v0 * p2) = false := decide_eq_false hq
           have u10 : cntS a2 b2 q10 s = cntS a2 b2 q10 (s + 1) := by
             have h := HK.out
             rw [if_neg (fun e => hq (h.2.2.1.2 e))] at h
             rw [h.2.1, Nat.add_zero]
           have HU10 := Aside0.mk u10
           clear u10
           go_wp2
           refine ⟨⟨s + 1, congrArg _ (wrap_up s (by have := HIT.out; omega)), congrArg (fun m : Nat => Value.int .i64 (m : Int)) HU9.out, congrArg (fun m : Nat => Value.int .i64 (m : Int)) HU10.out, ⟨n1⟩, HB13⟩, ?_⟩
           rw [wrap_up s (by have := HIT.out; omega)]; exact meas_up T s n1
  · obtain rfl : T = s := by have := HI.out; omega
    have hd : decide ((T : Int) < (T : Int)) = false := decide_eq_false (by omega)
    clear hj HI
    have hbth := smp_both HS2.out.1 HS2.out.2
    have hll : a2.length = b2.length := by have := HLN.out; omega
    have hc9 := cntS_all a2 b2 hll q9
    have hc10 := cntS_all a2 b2 hll q10
    have hTn : T = 2 ^ a2.length := by rw [HTF.out.1, ← HLN.out.1]
    rw [← hTn, ← HQ.out.2.2.2.2] at hc9 hc10
    obtain ⟨KK, hKK⟩ : ∃ K, K = 2 ^ (a2.length - (dfI (pairsL a2 b2)).length) := ⟨_, rfl⟩
    rw [← hKK] at hc9 hc10
    have hKL : T = KK * L := by
      rw [hTn, hKK, HQ.out.2.2.2.1, ← Nat.pow_add]
      congr 1
      have := HLL.out.1
      have := HLN.out.1
      omega
    have hKK0 : 0 < KK := by rw [hKK]; exact Nat.pow_pos (by omega)
    have ho9 : cntS a2 b2 q9 T = KK * OF own := by rw [hc9, HQ.out.1, HQ.out.2.2.1]
    have hrare := rare (allS rs) (fun y => farI y 0) den (v0 * (L : Int)) (Int.mul_nonneg (by have := HVD.out; omega) (by omega)) (by have := HVD.out; omega)
    have hq10e : (allS rs).countP q10 = (allS rs).countP (fun s => decide ((((allS rs).countP fun t => decide (farI s 0 ≤ farI t 0) : Nat) : Int) * den ≤ v0 * (L : Int))) := by rw [HQ.out.2.1, HQ.out.2.2.1]
    rw [← hq10e] at hrare
    obtain ⟨F, hF⟩ : ∃ F, F = cntS a2 b2 q9 T := ⟨_, rfl⟩
    obtain ⟨M, hM⟩ : ∃ M, M = cntS a2 b2 q10 T := ⟨_, rfl⟩
    have hfin : (M : Int) * den ≤ v0 * (T : Int) := by
      rw [hM, hc10, hKL]
      have e1 : ((KK * (allS rs).countP q10 : Nat) : Int) * den = (KK : Int) * (((allS rs).countP q10 : Int) * den) := by push_cast; rw [Int.mul_assoc]
      have e2 : v0 * ((KK * L : Nat) : Int) = (KK : Int) * (v0 * (L : Int)) := by push_cast; rw [← Int.mul_assoc, Int.mul_comm v0, Int.mul_assoc]
      rw [e1, e2]
      exact Int.mul_le_mul_of_nonneg_left hrare (by omega)
    rw [← hF] at ho9
    rw [← hF, ← hM]
    have bF := cntS_le a2 b2 q9 T
    have bM := cntS_le a2 b2 q10 T
    rw [← hF] at bF
    rw [← hM] at bM
    have hT32 := HTF.out.2.1
    obtain ⟨p1, hp1⟩ : ∃ p, p = (pchance a2 b2).1 := ⟨_, rfl⟩
    obtain ⟨p2, hp2⟩ : ∃ p, p = (pchance a2 b2).2 := ⟨_, rfl⟩
    have hch : pchance a2 b2 = lowI F T := by
      rw [ho9, hKL, lowI_mul _ _ _ hKK0]
      unfold pchance
      rw [← HOW.out, ← HQ.out.2.2.2.2, ← HQ.out.2.2.2.1, HQ.out.2.2.1]
    have HE := Aside0.mk (show hand_Paired.f a2 b2 = some (own, p1, p2, 0) ∧ pianolalaw10_lowest.f 200 p1 p2 (F : Int) (T : Int) = some true by
      refine ⟨?_, ?_⟩
      · unfold hand_Paired.f
        rw [if_pos hbth, if_pos hll, ← hp1, ← hp2, ← HOW.out]
      · rw [lowest_f F T 200 p1 p2 (by rw [hTn]; exact Nat.pow_pos (by omega)) (by omega) (by omega) (by omega), ← hch, ← hp1, ← hp2]
        simp)
    have hm1 := mul_in (x := (M : Int)) (y := den) (p := 32) (q := 256) (by omega) (by have := HVD.out; omega)
    have hm2 := mul_in (x := v0) (y := (T : Int)) (p := 255) (q := 32) (by have := HVD.out; omega) (by omega)
    have hw1 : wrap64 ((M : Int) * den) = (M : Int) * den := w64' _ (by omega) (by omega)
    have hw2 : wrap64 (v0 * 2 ^ n) = v0 * (T : Int) := by
      have e : (2 : Int) ^ n = (T : Int) := by rw [HTF.out.1]; push_cast; rfl
      rw [e, w64' _ (by omega) (by omega)]
    have HW := Aside0.mk (And.intro hw1 (And.intro hw2 hfin))
    clear hbth hll hc9 hc10 hTn hKK hKL hKK0 ho9 hrare hq10e hF hM hfin bF bM hT32 hp1 hp2 hch hm1 hm2 hw1 hw2
    go_wp2_with fail
    refine (paired_n (some ada) ca n a2 (some adb) cb n b2 own p1 p2 0 _ HLN.out.1 HLN.out.2 (Kd.C_below hCa2.out HBw.out) HCC.out.1 (Kd.C_below hCb2.out HBw.out) HCC.out.2 HE.out.1).mono ?_
    rintro e w5 ⟨rfl, hb⟩
    have HB6 := Aside0.mk (HBw.out.trans (hb.mono HBw.out.size))
    have HB7 := Aside0.mk (HB6.out.alloc HB6.out.size (.cells #[.int .i64 p1, .int .i64 p2] 34))
    have K21 := Aside0.mk (blk_new w5 (.cells #[.int .i64 p1, .int .i64 p2] 34))
    clear hb HBw HB6
    go_upto_region 26 with fail
    obtain ⟨g21, hg21⟩ : ∃ g, g = w5.heap.size := ⟨_, rfl⟩
    obtain ⟨g11, hg11⟩ : ∃ g, g = w3.heap.size := ⟨_, rfl⟩
    rw [← hg21] at K21 ⊢
    rw [← hg11] at K7 ⊢
    generalize w5.alloc (.cells #[.int .i64 p1, .int .i64 p2] 34) = w6 at HB7 K21 ⊢
    have hbd : Below w6.heap.size w6 w6.drew := pw_below_drewN (Below.refl _ _) 1
    have HK1 := Aside0.mk ((BK2.mk (blk_below2 HB7.out K7.out) K21.out : BK2 g11 g21 v0 den p1 p2 w6).below hbd)
    have HB8 := Aside0.mk (below_then HB7.out HB7.out.size hbd)
    clear hbd K21 HB7 hg21 hg11
    refine start_ (n := 29) (S := BK2 g11 g21 v0 den p1 p2) (ds := []) #[false, false, false, false, false, false, false, false, false, false, false, false, false, false, false, false, false, false, false, false, false, false, false, false, false, false, false, false, false] (by kernel_rfl) rfl rfl HK1.out (fun hHeld => ?_)
    refine with_tabW sw26_tab sw26_bits (fun HT_ HW_ => ?_)
    clear HK1
    generalize w6.drew = wd at *
    refine take_ (i := 0) (N := some 155) (v := ?_) (a' := ?_) #[true, false, false, false, false, false, false, false, false, false, false, false, false, false, false, false, false, false, false, false, false, false, false, false, false, false, false, false, false] rfl rfl (take_ofW HT_.out HW_.out (by kernel_rfl)) (fun _ _ _ h => h) (Or.inl ⟨by rfl, ?_⟩) hHeld ?_ ?_
    rotate_left
    · rintro w' s
      clear s
      go_simp
      with_reducible rfl
    rotate_left
    · simp only [Act.put, List.setIfInBounds_toArray, List.set_cons_zero, List.set_cons_succ, i64_w, i32_w]
      rfl
    refine take_ (i := 1) (N := some 156) (v := ?_) (a' := ?_) #[true, true, false, false, false, false, false, false, false, false, false, false, false, false, false, false, false, false, false, false, false, false, false, false, false, false, false, false, false] rfl rfl (take_ofW HT_.out HW_.out (by kernel_rfl)) (fun _ _ _ h => h) (Or.inl ⟨by rfl, ?_⟩) hHeld ?_ ?_
    rotate_left
    · rintro w' s
      clear s
      go_simp
      with_reducible rfl
    rotate_left
    · simp only [Act.put, List.setIfInBounds_toArray, List.set_cons_zero, List.set_cons_succ, i64_w, i32_w]
      rfl
    refine take_ (i := 2) (N := some 157) (v := ?_) (a' := ?_) #[true, true, true, false, false, false, false, false, false, false, false, false, false, false, false, false, false, false, false, false, false, false, false, false, false, false, false, false, false] rfl rfl (take_ofW HT_.out HW_.out (by kernel_rfl)) (fun _ _ _ h => h) (Or.inl ⟨by rfl, ?_⟩) hHeld ?_ ?_
    rotate_left
    · rintro w' s
      clear s
      go_simp
      with_reducible rfl
    rotate_left
    · simp only [Act.put, List.setIfInBounds_toArray, List.set_cons_zero, List.set_cons_succ, i64_w, i32_w]
      rfl
    refine take_ (i := 3) (N := some 158) (v := ?_) (a' := ?_) #[true, true, true, true, false, false, false, false, false, false, false, false, false, false, false, false, false, false, false, false, false, false, false, false, false, false, false, false, false] rfl rfl (take_ofW HT_.out HW_.out (by kernel_rfl)) (fun _ _ _ h => h) (Or.inl ⟨by rfl, ?_⟩) hHeld ?_ ?_
    rotate_left
    · rintro w' s
      clear s
      go_simp
      with_reducible rfl
    rotate_left
    · simp only [Act.put, List.setIfInBounds_toArray, List.set_cons_zero, List.set_cons_succ, i64_w, i32_w]
      rfl
    refine take_ (i := 4) (N := some 159) (v := ?_) (a' := ?_) #[true, true, true, true, true, false, false, false, false, false, false, false, false, false, false, false, false, false, false, false, false, false, false, false, false, false, false, false, false] rfl rfl (take_ofW HT_.out HW_.out (by kernel_rfl)) (fun _ _ _ h => h) (Or.inl ⟨by rfl, ?_⟩) hHeld ?_ ?_
    rotate_left
    · rintro w' s
      clear s
      go_simp
      with_reducible rfl
    rotate_left
    · simp only [Act.put, List.setIfInBounds_toArray, List.set_cons_zero, List.set_cons_succ, i64_w, i32_w]
      rfl
    refine take_ (i := 5) (N := some 160) (v := ?_) (a' := ?_) #[true, true, true, true, true, true, false, false, false, false, false, false, false, false, false, false, false, false, false, false, false, false, false, false, false, false, false, false, false] rfl rfl (take_ofW HT_.out HW_.out (by kernel_rfl)) (fun _ _ _ h => h) (Or.inl ⟨by rfl, ?_⟩) hHeld ?_ ?_
    rotate_left
    · rintro w' s
      clear s
      go_simp
      with_reducible rfl
    rotate_left
    · simp only [Act.put, List.setIfInBounds_toArray, List.set_cons_zero, List.set_cons_succ, i64_w, i32_w]
      rfl
    refine take_ (i := 6) (N := some 161) (v := ?_) (a' := ?_) #[true, true, true, true, true, true, true, false, false, false, false, false, false, false, false, false, false, false, false, false, false, false, false, false, false, false, false, false, false] rfl rfl (take_ofW HT_.out HW_.out (by kernel_rfl)) (fun _ _ _ h => h) (Or.inl ⟨by rfl, ?_⟩) hHeld ?_ ?_
    rotate_left
    · rintro w' s
      clear s
      go_simp
      with_reducible rfl
    rotate_left
    · simp only [Act.put, List.setIfInBounds_toArray, List.set_cons_zero, List.set_cons_succ, i64_w, i32_w]
      rfl
    refine take_ (i := 7) (N := some 162) (v := ?_) (a' := ?_) #[true, true, true, true, true, true, true, true, false, false, false, false, false, false, false, false, false, false, false, false, false, false, false, false, false, false, false, false, false] rfl rfl (take_ofW HT_.out HW_.out (by kernel_rfl)) (fun _ _ _ h => h) (Or.inl ⟨by rfl, ?_⟩) hHeld ?_ ?_
    rotate_left
    · rintro w' s
      clear s
      go_simp
      with_reducible rfl
    rotate_left
    · simp only [Act.put, List.setIfInBounds_toArray, List.set_cons_zero, List.set_cons_succ, i64_w, i32_w]
      rfl
    refine take_ (i := 8) (N := some 163) (v := ?_) (a' := ?_) #[true, true, true, true, true, true, true, true, true, false, false, false, false, false, false, false, false, false, false, false, false, false, false, false, false, false, false, false, false] rfl rfl (take_ofW HT_.out HW_.out (by kernel_rfl)) (fun _ _ _ h => h) (Or.inl ⟨by rfl, ?_⟩) hHeld ?_ ?_
    rotate_left
    · rintro w' s
      have c0 := (blk_cell s.k2 0).trans (rfl : _ = some (Value.int .i64 p1))
      have c1 := (blk_cell s.k2 1).trans (rfl : _ = some (Value.int .i64 p2))
      clear s
      go_simp
      with_reducible rfl
    rotate_left
    · simp only [Act.put, List.setIfInBounds_toArray, List.set_cons_zero, List.set_cons_succ, i64_w, i32_w]
      rfl
    refine take_ (i := 9) (N := some 164) (v := ?_) (a' := ?_) #[true, true, true, true, true, true, true, true, true, true, false, false, false, false, false, false, false, false, false, false, false, false, false, false, false, false, false, false, false] rfl rfl (take_ofW HT_.out HW_.out (by kernel_rfl)) (fun _ _ _ h => h) (Or.inl ⟨by rfl, ?_⟩) hHeld ?_ ?_
    rotate_left
    · rintro w' s
      clear s
      go_simp
      with_reducible rfl
    rotate_left
    · simp only [Act.put, List.setIfInBounds_toArray, List.set_cons_zero, List.set_cons_succ, i64_w, i32_w]
      rfl
    refine take_ (i := 10) (N := some 165) (v := ?_) (a' := ?_) #[true, true, true, true, true, true, true, true, true, true, true, false, false, false, false, false, false, false, false, false, false, false, false, false, false, false, false, false, false] rfl rfl (take_ofW HT_.out HW_.out (by kernel_rfl)) (fun _ _ _ h => h) (Or.inl ⟨by rfl, ?_⟩) hHeld ?_ ?_
    rotate_left
    · rintro w' s
      clear s
      go_simp
      with_reducible rfl
    rotate_left
    · simp only [Act.put, List.setIfInBounds_toArray, List.set_cons_zero, List.set_cons_succ, i64_w, i32_w]
      rfl
    refine take_ (i := 11) (N := some 166) (v := ?_) (a' := ?_) #[true, true, true, true, true, true, true, true, true, true, true, true, false, false, false, false, false, false, false, false, false, false, false, false, false, false, false, false, false] rfl rfl (take_ofW HT_.out HW_.out (by kernel_rfl)) (fun _ _ _ h => h) (Or.inl ⟨by rfl, ?_⟩) hHeld ?_ ?_
    rotate_left
    · rintro w' s
      clear s
      go_simp
      with_reducible rfl
    rotate_left
    · simp only [Act.put, List.setIfInBounds_toArray, List.set_cons_zero, List.set_cons_succ, i64_w, i32_w]
      rfl
    refine one_ (i := 12) (N := some 167) #[true, true, true, true, true, true, true, true, true, true, true, true, true, false, false, false, false, false, false, false, false, false, false, false, false, false, false, false, false] rfl rfl (one_of HT_.out (by kernel_rfl)) (by decide) (fun K hK => ?_)
    refine goes_ Try.func36 (by kernel_rfl) rfl #[.agg #[.int .i64 p1, .int .i64 p2], .int .i64 F, .int .i64 (wrap64 ((2 : Int) ^ n))] (by rfl) rfl rfl (by (try simp only [List.map_toArray, List.map_cons, List.map_nil]); first | done | rfl) ?_
    refine (pianolalaw10_lowest.calls 200 p1 p2 F (wrap64 ((2 : Int) ^ n)) true _ (by rw [HTF.out.2.2.2.2]; exact HE.out.2)).mono ?_
    rintro e wp1 ⟨rfl, hb⟩
    refine ⟨_, rfl, ?_⟩
    have hk2 := hHeld.below hb
    have HB' := Aside0.mk (below_then HB8.out HB8.out.size hb); clear HB8; have HB8 := HB'; clear HB'
    clear hb
    refine hK.out _ _ hk2 (fun hHeld => ?_)
    clear hK K hk2
    refine norm_ (a' := ?_) ?_ ?_
    rotate_left
    · show Act.put _ (some 167) _ = _
      simp only [Act.put, List.setIfInBounds_toArray, List.set_cons_zero, List.set_cons_succ, i64_w, i32_w]
      rfl
    refine take_ (i := 13) (N := some 168) (v := ?_) (a' := ?_) #[true, true, true, true, true, true, true, true, true, true, true, true, true, true, false, false, false, false, false, false, false, false, false, false, false, false, false, false, false] rfl rfl (take_ofW HT_.out HW_.out (by kernel_rfl)) (fun _ _ _ h => h) (Or.inl ⟨by rfl, ?_⟩) hHeld ?_ ?_
    rotate_left
    · rintro w' s
      clear s
      go_simp
      with_reducible rfl
    rotate_left
    · simp only [Act.put, List.setIfInBounds_toArray, List.set_cons_zero, List.set_cons_succ, i64_w, i32_w]
      rfl
    refine take_ (i := 14) (N := some 169) (v := ?_) (a' := ?_) #[true, true, true, true, true, true, true, true, true, true, true, true, true, true, true, false, false, false, false, false, false, false, false, false, false, false, false, false, false] rfl rfl (take_ofW HT_.out HW_.out (by kernel_rfl)) (fun _ _ _ h => h) (Or.inl ⟨by rfl, ?_⟩) hHeld ?_ ?_
    rotate_left
    · rintro w' s
      clear s
      go_simp
      with_reducible rfl
    rotate_left
    · simp only [Act.put, List.setIfInBounds_toArray, List.set_cons_zero, List.set_cons_succ, i64_w, i32_w]
      rfl
    refine take_ (i := 15) (N := some 170) (v := ?_) (a' := ?_) #[true, true, true, true, true, true, true, true, true, true, true, true, true, true, true, true, false, false, false, false, false, false, false, false, false, false, false, false, false] rfl rfl (take_ofW HT_.out HW_.out (by kernel_rfl)) (fun _ _ _ h => h) (Or.inl ⟨by rfl, ?_⟩) hHeld ?_ ?_
    rotate_left
    · rintro w' s
      clear s
      go_simp
      with_reducible rfl
    rotate_left
    · simp only [Act.put, List.setIfInBounds_toArray, List.set_cons_zero, List.set_cons_succ, i64_w, i32_w]
      rfl
    refine take_ (i := 16) (N := some 171) (v := ?_) (a' := ?_) #[true, true, true, true, true, true, true, true, true, true, true, true, true, true, true, true, true, false, false, false, false, false, false, false, false, false, false, false, false] rfl rfl (take_ofW HT_.out HW_.out (by kernel_rfl)) (fun _ _ _ h => h) (Or.inl ⟨by rfl, ?_⟩) hHeld ?_ ?_
    rotate_left
    · rintro w' s
      clear s
      go_simp
      with_reducible rfl
    rotate_left
    · simp only [Act.put, List.setIfInBounds_toArray, List.set_cons_zero, List.set_cons_succ, i64_w, i32_w]
      rfl
    refine take_ (i := 17) (N := some 172) (v := ?_) (a' := ?_) #[true, true, true, true, true, true, true, true, true, true, true, true, true, true, true, true, true, true, false, false, false, false, false, false, false, false, false, false, false] rfl rfl (take_ofW HT_.out HW_.out (by kernel_rfl)) (fun _ _ _ h => h) (Or.inl ⟨by rfl, ?_⟩) hHeld ?_ ?_
    rotate_left
    · rintro w' s
      have c1 := (blk_cell s.k1 1).trans (rfl : _ = some (Value.int .i64 den))
      clear s
      go_simp
      with_reducible rfl
    rotate_left
    · simp only [Act.put, List.setIfInBounds_toArray, List.set_cons_zero, List.set_cons_succ, i64_w, i32_w]
      rfl
    have hw1 := HW.out.1
    have hw2 := HW.out.2.1
    have z5 : decide ((M : Int) * den ≤ v0 * (T : Int)) = true := decide_eq_true HW.out.2.2
    refine take_ (i := 18) (N := some 173) (v := ?_) (a' := ?_) #[true, true, true, true, true, true, true, true, true, true, true, true, true, true, true, true, true, true, true, false, false, false, false, false, false, false, false, false, false] rfl rfl (take_ofW HT_.out HW_.out (by kernel_rfl)) (fun _ _ _ h => h) (Or.inl ⟨by rfl, ?_⟩) hHeld ?_ ?_
    rotate_left
    · rintro w' s
      clear s
      go_simp
      with_reducible rfl
    rotate_left
    · simp only [Act.put, List.setIfInBounds_toArray, List.set_cons_zero, List.set_cons_succ, i64_w, i32_w]
      rfl
    refine take_ (i := 19) (N := some 174) (v := ?_) (a' := ?_) #[true, true, true, true, true, true, true, true, true, true, true, true, true, true, true, true, true, true, true, true, false, false, false, false, false, false, false, false, false] rfl rfl (take_ofW HT_.out HW_.out (by kernel_rfl)) (fun _ _ _ h => h) (Or.inl ⟨by rfl, ?_⟩) hHeld ?_ ?_
    rotate_left
    · rintro w' s
      clear s
      go_simp
      with_reducible rfl
    rotate_left
    · simp only [Act.put, List.setIfInBounds_toArray, List.set_cons_zero, List.set_cons_succ, i64_w, i32_w]
      rfl
    refine take_ (i := 20) (N := some 175) (v := ?_) (a' := ?_) #[true, true, true, true, true, true, true, true, true, true, true, true, true, true, true, true, true, true, true, true, true, false, false, false, false, false, false, false, false] rfl rfl (take_ofW HT_.out HW_.out (by kernel_rfl)) (fun _ _ _ h => h) (Or.inl ⟨by rfl, ?_⟩) hHeld ?_ ?_
    rotate_left
    · rintro w' s
      have c1 := (blk_cell s.k1 0).trans (rfl : _ = some (Value.int .i64 v0))
      clear s
      go_simp
      with_reducible rfl
    rotate_left
    · simp only [Act.put, List.setIfInBounds_toArray, List.set_cons_zero, List.set_cons_succ, i64_w, i32_w]
      rfl
    refine take_ (i := 21) (N := some 176) (v := ?_) (a' := ?_) #[true, true, true, true, true, true, true, true, true, true, true, true, true, true, true, true, true, true, true, true, true, true, false, false, false, false, false, false, false] rfl rfl (take_ofW HT_.out HW_.out (by kernel_rfl)) (fun _ _ _ h => h) (Or.inl ⟨by rfl, ?_⟩) hHeld ?_ ?_
    rotate_left
    · rintro w' s
      clear s
      go_simp
      with_reducible rfl
    rotate_left
    · simp only [Act.put, List.setIfInBounds_toArray, List.set_cons_zero, List.set_cons_succ, i64_w, i32_w]
      rfl
    refine take_ (i := 22) (N := some 177) (v := ?_) (a' := ?_) #[true, true, true, true, true, true, true, true, true, true, true, true, true, true, true, true, true, true, true, true, true, true, true, false, false, false, false, false, false] rfl rfl (take_ofW HT_.out HW_.out (by kernel_rfl)) (fun _ _ _ h => h) (Or.inl ⟨by rfl, ?_⟩) hHeld ?_ ?_
    rotate_left
    · rintro w' s
      clear s
      go_simp
      with_reducible rfl
    rotate_left
    · simp only [Act.put, List.setIfInBounds_toArray, List.set_cons_zero, List.set_cons_succ, i64_w, i32_w]
      rfl
    refine take_ (i := 23) (N := some 178) (v := ?_) (a' := ?_) #[true, true, true, true, true, true, true, true, true, true, true, true, true, true, true, true, true, true, true, true, true, true, true, true, false, false, false, false, false] rfl rfl (take_ofW HT_.out HW_.out (by kernel_rfl)) (fun _ _ _ h => h) (Or.inl ⟨by rfl, ?_⟩) hHeld ?_ ?_
    rotate_left
    · rintro w' s
      clear s
      go_simp
      with_reducible rfl
    rotate_left
    · simp only [Act.put, List.setIfInBounds_toArray, List.set_cons_zero, List.set_cons_succ, i64_w, i32_w]
      rfl
    refine take_ (i := 24) (N := some 179) (v := ?_) (a' := ?_) #[true, true, true, true, true, true, true, true, true, true, true, true, true, true, true, true, true, true, true, true, true, true, true, true, true, false, false, false, false] rfl rfl (take_ofW HT_.out HW_.out (by kernel_rfl)) (fun _ _ _ h => h) (Or.inl ⟨by rfl, ?_⟩) hHeld ?_ ?_
    rotate_left
    · rintro w' s
      clear s
      go_simp
      with_reducible rfl
    rotate_left
    · simp only [Act.put, List.setIfInBounds_toArray, List.set_cons_zero, List.set_cons_succ, i64_w, i32_w]
      rfl
    refine take_ (i := 25) (N := some 180) (v := ?_) (a' := ?_) #[true, true, true, true, true, true, true, true, true, true, true, true, true, true, true, true, true, true, true, true, true, true, true, true, true, true, false, false, false] rfl rfl (take_ofW HT_.out HW_.out (by kernel_rfl)) (fun _ _ _ h => h) (Or.inl ⟨by rfl, ?_⟩) hHeld ?_ ?_
    rotate_left
    · rintro w' s
      clear s
      go_simp
      with_reducible rfl
    rotate_left
    · simp only [Act.put, List.setIfInBounds_toArray, List.set_cons_zero, List.set_cons_succ, i64_w, i32_w]
      rfl
    refine one_ (i := 26) (N := some 181) #[true, true, true, true, true, true, true, true, true, true, true, true, true, true, true, true, true, true, true, true, true, true, true, true, true, true, true, false, false] rfl rfl (one_of HT_.out (by kernel_rfl)) (by decide) (fun K hK => ?_)
    refine goes_ Try.func14 (by kernel_rfl) rfl #[] (by rfl) rfl rfl (by (try simp only [List.map_toArray, List.map_cons, List.map_nil]); first | done | rfl) ?_
    refine (works_calls _).mono ?_
    rintro e wp2 ⟨rfl, hb⟩
    refine ⟨_, rfl, ?_⟩
    have hk2 := hHeld.below hb
    have HB' := Aside0.mk (below_then HB8.out HB8.out.size hb); clear HB8; have HB8 := HB'; clear HB'
    clear hb
    refine hK.out _ _ hk2 (fun hHeld => ?_)
    clear hK K hk2
    refine norm_ (a' := ?_) ?_ ?_
    rotate_left
    · show Act.put _ (some 181) _ = _
      simp only [Act.put, List.setIfInBounds_toArray, List.set_cons_zero, List.set_cons_succ, i64_w, i32_w]
      rfl
    refine take_ (i := 27) (N := some 182) (v := ?_) (a' := ?_) #[true, true, true, true, true, true, true, true, true, true, true, true, true, true, true, true, true, true, true, true, true, true, true, true, true, true, true, true, false] rfl rfl (take_ofW HT_.out HW_.out (by kernel_rfl)) (fun _ _ _ h => h) (Or.inl ⟨by rfl, ?_⟩) hHeld ?_ ?_
    rotate_left
    · rintro w' s
      clear s
      go_simp
      with_reducible rfl
    rotate_left
    · simp only [Act.put, List.setIfInBounds_toArray, List.set_cons_zero, List.set_cons_succ, i64_w, i32_w]
      rfl
    refine take_ (i := 28) (N := some 4) (v := ?_) (a' := ?_) #[true, true, true, true, true, true, true, true, true, true, true, true, true, true, true, true, true, true, true, true, true, true, true, true, true, true, true, true, true] rfl rfl (take_ofW HT_.out HW_.out (by kernel_rfl)) (fun _ _ _ h => h) (Or.inl ⟨by rfl, ?_⟩) hHeld ?_ ?_
    rotate_left
    · rintro w' s
      clear s
      go_simp
      with_reducible rfl
    rotate_left
    · simp only [Act.put, List.setIfInBounds_toArray, List.set_cons_zero, List.set_cons_succ, i64_w, i32_w]
      rfl
    refine done_ (done_of HT_.out (by kernel_rfl)) ?_
    clear HT_ HW_ hHeld
    go_wp2
    go_ret
    exact ⟨rfl, HB5.out.trans (HB8.out.mono HB5.out.size)⟩

end Go.Proofs.Ythddeillkdediaa.H
