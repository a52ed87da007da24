/- Texts PR, LI, WK of this chapter, one behind the other. -/
import Derived.Test.YthddeillkdediaaXF
import Derived.Test.YthddeillkdediaaXG

/- Plain law: the reference's Check, Ranks and Beats are ours. -/
namespace Go.Proofs.Ythddeillkdediaa.H
open Go.RowKit Go.Proofs.YthddeillkdediaaW.PrintWords Go.Proofs.YthddeillkdediaaW.PrintLast Go.Proofs.YthddeillkdediaaW.PrintMore
open Go.Shelf Go.Proofs.Ythddeillkdediaa.QA
set_option linter.unusedVariables false
set_option linter.unusedSimpArgs false


theorem wrap_up (i : Nat) (h : i ≤ 1000000000) : wrap64 ((i : Int) + 1) = ((i + 1 : Nat) : Int) := by unfold wrap64; omega
theorem sum_snoc {α : Type} (l : List α) (x : α) (f : α → Int) : sumI ((l ++ [x]).map f) = sumI (l.map f) + f x := by
 rw [List.map_append, sumI_append]
 simp [sumI]
def rowS (b : List Int) (x : Int) : Int := sumI (b.map fun y => scoreI x y)
theorem rowS_in (b : List Int) (x : Int) : 0 ≤ rowS b x ∧ rowS b x ≤ 2 * b.length := by
 have := sumI_in (b.map fun y => scoreI x y) 0 2 (fun z hz => by
  obtain ⟨y, _, rfl⟩ := List.mem_map.1 hz
  exact scoreI_in x y)
 rw [List.length_map] at this
 unfold rowS
 omega
theorem beatsI_rows (a b : List Int) : beatsI a b = sumI (a.map (rowS b)) := rfl
theorem rows_in (a b : List Int) (ha : a.length ≤ 1000) (hb : b.length ≤ 1000) : 0 ≤ sumI (a.map (rowS b)) ∧ sumI (a.map (rowS b)) ≤ 2000000 := by
 have := sumI_in (a.map (rowS b)) 0 2000 (fun z hz => by
  obtain ⟨y, _, rfl⟩ := List.mem_map.1 hz
  have := rowS_in b y
  omega)
 rw [List.length_map] at this
 omega
theorem rowS_take (b : List Int) (x : Int) {j : Nat} (h : j < b.length) : rowS (b.take (j + 1)) x = rowS (b.take j) x + scoreI x (rd b (j : Int)) := by
 unfold rowS
 rw [take_rd b h]
 exact sum_snoc _ _ _
end Go.Proofs.Ythddeillkdediaa.H

/- Literal rows, boxes of two, rows of rows. -/
namespace Go.Proofs.Ythddeillkdediaa.H
open Go.RowKit Go.Proofs.YthddeillkdediaaW.PrintWords Go.Proofs.YthddeillkdediaaW.PrintLast Go.Proofs.YthddeillkdediaaW.PrintMore
open Go.Shelf Go.Proofs.Ythddeillkdediaa.QA
set_option linter.unusedVariables false
set_option linter.unusedSimpArgs false


theorem C_lit (W : World) (cs : Array Value) (l : List Int) (h : cs = (l.map (Value.int .i64)).toArray) {n : Nat} (hn : n = l.length) (hm : l.length ≤ 1000) : Kd.C (Kd.int .i64) (W.alloc (.cells cs 3)) (some ⟨W.heap.size, 0, none⟩) n l := by
  subst h
  subst hn
  refine Kd.C_of_reads (d := 0) ⟨rfl, by omega, fun _ => ⟨_, rfl, fun j hj => ?_⟩⟩
  rw [add_plain, World.cell?_alloc_at _ _ _ _ rfl]
  simp [hj, List.getD_eq_getElem?_getD]
theorem C_litS (W : World) (x y : Int) : Kd.C k41 (W.alloc (.cells #[.int .i64 x, .int .i64 y] 41)) (some ⟨W.heap.size, 0, none⟩) 1 [⟨x, y⟩] := by
  refine ⟨rfl, by omega, fun _ => ⟨_, rfl, fun j p hj => ?_⟩⟩
  match j, hj with
  | 0, hj =>
    obtain rfl := Option.some.inj hj
    refine ⟨_, rfl, k41_mk _ _, fun i u hu => ?_⟩
    rw [add_plain, World.cell?_alloc_at _ _ _ _ rfl]
    match i, hu with
    | 0, hu => exact hu
    | 1, hu => exact hu
  | j + 1, hj => simp at hj
theorem list_calls (v : Value) (w : World) : Calls Try.prog 40 #[v] w fun e w' => e = .returned v ∧ Below w.heap.size w w' := by
  have HB := Aside0.mk (Below.refl w.heap.size w)
  go_enter Try.func40, Try.ntmps40
  go_wp2
  go_ret
  exact ⟨rfl, by repeat (first | (with_reducible first | exact HB.out | apply below_alloc | apply pw_below_drewN | apply below_drew1) | exact HB.out)⟩
theorem lit_calls (W : World) (cs : Array Value) (l : List Int) (h : cs = (l.map (Value.int .i64)).toArray) (hm : l.length ≤ 1000) :
  Calls Try.prog 40 #[.slice (some ⟨W.heap.size, 0, none⟩) l.length l.length] (W.alloc (.cells cs 3)) fun e w' => ∃ g, e = .returned (.slice (some ⟨g, 0, none⟩) l.length l.length) ∧ Kd.C (Kd.int .i64) w' (some ⟨g, 0, none⟩) l.length l ∧ Below W.heap.size W w' :=
  (list_calls _ _).mono fun e w' ⟨he, hb⟩ => ⟨_, he, Kd.C_below (C_lit W cs l h rfl hm) hb, below_then (below_alloc (Below.refl _ _) _) (by simp) hb⟩
theorem size1 (W : World) (o : Obj) : (W.alloc o).heap.size = W.heap.size + 1 := by simp
theorem lit_calls' (W : World) (g : Nat) (hg : W.heap.size = g) (cs : Array Value) (l : List Int) (h : cs = (l.map (Value.int .i64)).toArray) (hm : l.length ≤ 1000) :
  Calls Try.prog 40 #[.slice (some ⟨g, 0, none⟩) l.length l.length] (W.alloc (.cells cs 3)) fun e w' => ∃ g, e = .returned (.slice (some ⟨g, 0, none⟩) l.length l.length) ∧ Kd.C (Kd.int .i64) w' (some ⟨g, 0, none⟩) l.length l ∧ Below W.heap.size W w' := by
  subst hg
  exact lit_calls W cs l h hm
theorem C_rows (W : World) (b : Nat) (cs : Array Value) (t : TypeId) (ls : List (List Int)) (hb : W.heap[b]? = some (.cells cs t (0, 0))) (hl : ls.length ≤ 1000)
  (h : ∀ (i : Nat) (hi : i < ls.length), ∃ A c, cs[i]? = some (.slice A (ls[i]).length c) ∧ (ls[i]).length ≤ c ∧ Kd.C (Kd.int .i64) W A (ls[i]).length ls[i]) : Kd.C (Kd.slice 3 (Kd.int .i64)) W (some ⟨b, 0, none⟩) ls.length ls := by
  refine ⟨rfl, by omega, fun _ => ⟨_, rfl, fun j p hj => ?_⟩⟩
  obtain ⟨hi, rfl⟩ := List.getElem?_eq_some_iff.1 hj
  obtain ⟨A, c, h1, h2, h3⟩ := h j hi
  refine ⟨[.slice A (ls[j]).length c], rfl, ⟨A, c, rfl, h2, h3⟩, fun i u hu => ?_⟩
  match i, hu with
  | 0, hu =>
    obtain rfl := Option.some.inj hu
    rw [add_plain]
    refine (blk_cell hb _).trans ?_
    show cs[j * 1 + 0]? = _
    rw [Nat.mul_one, Nat.add_zero]
    exact h1

end Go.Proofs.Ythddeillkdediaa.H

/- works: the examples of the chapter hold (printed by h10_21.py). -/
namespace Go.Proofs.Ythddeillkdediaa.H
open Go.RowKit Go.Proofs.YthddeillkdediaaW.PrintWords Go.Proofs.YthddeillkdediaaW.PrintLast Go.Proofs.YthddeillkdediaaW.PrintMore
open Go.Shelf Go.Proofs.Ythddeillkdediaa.QA
set_option linter.unusedVariables false
set_option linter.unusedSimpArgs false

def wk12_T : Bool × List (List Nat × List Nat) := (true, [([], []), ([0], [0]), ([1], [1]), ([2], [2]), ([3, 2], [2, 3]), ([2, 4], [2, 4]), ([5, 2], [5]), ([6], [6]), ([6, 6], [6]), ([7, 8, 6], [6, 7, 8]), ([6, 9], [6, 9]), ([10, 8], [10]), ([11], [11]), ([11, 11], [11]), ([12, 13, 11], [11, 12, 13]), ([11, 14], [11, 14]), ([15, 13], [15]), ([16], [16]), ([17, 16], [16, 17]), ([16, 18], [16, 18]), ([19, 16], [19]), ([20], [20]), ([20, 20], [20]), ([21, 22, 20], [20, 21, 22]), ([20, 23], [20, 23]), ([24, 22], [24]), ([25], [25]), ([26, 25], [25, 26]), ([25, 27], [25, 27]), ([28, 25], [28]), ([29], [29]), ([29, 29], [29]), ([30, 31, 29], [29, 30, 31]), ([29, 32], [29, 32]), ([33, 31], [33]), ([34], [34]), ([34], [34]), ([35, 36, 34], [34, 35, 36]), ([34, 37], [34, 37]), ([38, 34], [38]), ([39], [39]), ([39], [39]), ([41, 39, 39], [39, 41]), ([40, 42, 42, 39], [39, 40, 42]), ([39, 43], [39, 43]), ([44, 43], [44]), ([45], [45]), ([46, 45], [45, 46]), ([45, 47], [45, 47]), ([48, 45, 0, 1, 2, 3, 4, 5, 6, 7, 8, 9, 10, 11, 12, 13, 14, 15, 16, 17, 18, 19, 20, 21, 22, 23, 24, 25, 26, 27, 28, 29, 30, 31, 32, 33, 34, 35, 36, 37, 38, 39, 40, 41, 42, 43, 44, 45, 46, 47, 48], [48])])
def wk12_B : List Nat := [0, 1, 3, 7, 15, 31, 63, 127, 127, 511, 1023, 2047, 4095, 4095, 16383, 32767, 65535, 131071, 262143, 524287, 1048575, 2097151, 2097151, 8388607, 16777215, 33554431, 67108863, 134217727, 268435455, 536870911, 1073741823, 1073741823, 4294967295, 8589934591, 17179869183, 34359738367, 34359738367, 137438953471, 274877906943, 549755813887, 1099511627775, 1099511627775, 3298534883327, 8796093022207, 17592186044415, 35184372088831, 70368744177663, 140737488355327, 281474976710655, 562949953421311]
theorem wk12_tab : rtab .any (opsOf Try.f14 12) = wk12_T := by kernel_rfl
theorem wk12_bits : waitsOk wk12_T.2 wk12_B = true := by kernel_rfl

instance decS41 : DecidableEq S41 := fun x y => decidable_of_iff (x.f0 = y.f0 ∧ x.f1 = y.f1) ⟨fun h => by
  obtain ⟨a, b⟩ := x
  obtain ⟨c, d⟩ := y
  simp only at h
  rw [h.1, h.2], fun h => by rw [h]; exact ⟨rfl, rfl⟩⟩
theorem C_litS' (W : World) (g : Nat) (hg : W.heap.size = g) (x y : Int) : Kd.C k41 (W.alloc (.cells #[.int .i64 x, .int .i64 y] 41)) (some ⟨g, 0, none⟩) 1 [⟨x, y⟩] := by
  subst hg
  exact C_litS W x y
theorem C_rows2 (X wq : World) (a b c d : Int) (g0 g1 n : Nat) (h0 : X.heap.size = n + 1) (h1 : g0 = X.heap.size) (h2 : g1 = X.heap.size + 1)
  (hb : Below (((X.alloc (.cells #[.int .i64 a, .int .i64 b] 3)).alloc (.cells #[.int .i64 c, .int .i64 d] 3)).alloc (.cells #[.slice (some ⟨g0, 0, none⟩) 2 2, .slice (some ⟨g1, 0, none⟩) 2 2] 22)).heap.size (((X.alloc (.cells #[.int .i64 a, .int .i64 b] 3)).alloc (.cells #[.int .i64 c, .int .i64 d] 3)).alloc (.cells #[.slice (some ⟨g0, 0, none⟩) 2 2, .slice (some ⟨g1, 0, none⟩) 2 2] 22)) wq) :
  Kd.C (Kd.slice 3 (Kd.int .i64)) wq (some ⟨n + 1 + 1 + 1, 0, none⟩) 2 [[a, b], [c, d]] ∧ Below X.heap.size X wq := by
  subst h1
  subst h2
  have hA := C_lit X #[.int .i64 a, .int .i64 b] [a, b] rfl rfl (by simp)
  have hB := C_lit (X.alloc (.cells #[.int .i64 a, .int .i64 b] 3)) #[.int .i64 c, .int .i64 d] [c, d] rfl rfl (by simp)
  rw [show (X.alloc (.cells #[.int .i64 a, .int .i64 b] 3)).heap.size = X.heap.size + 1 by simp] at hB
  have b1 := below_alloc (Below.refl (X.alloc (.cells #[.int .i64 a, .int .i64 b] 3)).heap.size _) (.cells #[.int .i64 c, .int .i64 d] 3)
  have b2 := below_alloc (Below.refl ((X.alloc (.cells #[.int .i64 a, .int .i64 b] 3)).alloc (.cells #[.int .i64 c, .int .i64 d] 3)).heap.size _) (.cells #[.slice (some ⟨X.heap.size, 0, none⟩) 2 2, .slice (some ⟨X.heap.size + 1, 0, none⟩) 2 2] 22)
  have hA2 := Kd.C_below (Kd.C_below (Kd.C_below hA b1) b2) hb
  have hB2 := Kd.C_below (Kd.C_below hB b2) hb
  have hK := blk_below2 hb (blk_new ((X.alloc (.cells #[.int .i64 a, .int .i64 b] 3)).alloc (.cells #[.int .i64 c, .int .i64 d] 3)) (.cells #[.slice (some ⟨X.heap.size, 0, none⟩) 2 2, .slice (some ⟨X.heap.size + 1, 0, none⟩) 2 2] 22))
  rw [show ((X.alloc (.cells #[.int .i64 a, .int .i64 b] 3)).alloc (.cells #[.int .i64 c, .int .i64 d] 3)).heap.size = n + 1 + 1 + 1 by simp [h0]] at hK
  refine ⟨C_rows wq _ _ 22 [[a, b], [c, d]] hK (by simp) (fun i hi => ?_), ?_⟩
  · match i, hi with
    | 0, _ => exact ⟨_, 2, rfl, Nat.le_refl _, hA2⟩
    | 1, _ => exact ⟨_, 2, rfl, Nat.le_refl _, hB2⟩
  · refine below_then (below_alloc (below_alloc (below_alloc (Below.refl _ _) _) _) _) ?_ hb
    simp
    omega
structure WK (g9 g11 g14 g17 g19 : Nat) (w : World) : Prop where
  k9 : w.heap[g9]? = some (.cells #[.int .i64 1, .int .i64 3] 34 (0, 0))
  k11 : w.heap[g11]? = some (.cells #[.int .i64 2, .int .i64 3] 34 (0, 0))
  k14 : w.heap[g14]? = some (.cells #[.int .i64 1, .int .i64 4] 34 (0, 0))
  k17 : w.heap[g17]? = some (.cells #[.int .i64 1, .int .i64 1] 34 (0, 0))
  k19 : w.heap[g19]? = some (.cells #[.int .i64 0, .int .i64 2] 41 (0, 0))
theorem WK.below {g9 g11 g14 g17 g19 : Nat} {w w' : World} (h : WK g9 g11 g14 g17 g19 w) (hb : Below w.heap.size w w') : WK g9 g11 g14 g17 g19 w' :=
  ⟨blk_below2 hb h.k9, blk_below2 hb h.k11, blk_below2 hb h.k14, blk_below2 hb h.k17, blk_below2 hb h.k19⟩
def pianolalaw10_works.f : Option Bool := some true
set_option maxHeartbeats 8000000 in
set_option maxRecDepth 100000 in
theorem works_calls (w : World) : Calls Try.prog 14 #[] w fun e w' => e = .returned (.bool true) ∧ Below w.heap.size w w' := by
  have HB := Aside0.mk (Below.refl w.heap.size w)
  have hu34 := Try.underlying34
  have hu41 := Try.underlying41
  go_enter Try.func14, Try.ntmps14
  go_wp2_with fail
  refine (lit_calls _ _ [5, 3, 5, 9] rfl (by decide)).mono ?_
  rintro e w1 ⟨ga, rfl, hC, hb⟩
  have hbb := hb
  clear hb
  have HB' := Aside0.mk (below_then HB.out HB.out.size hbb); clear HB; have HB := HB'; clear HB'
  clear hbb
  have HCa := Aside0.mk hC; clear hC
  go_wp2_with fail
  refine (hand_Ranks.calls _ _ [5, 3, 5, 9] [5, 2, 5, 8] 0 _ HCa.out (Nat.le_refl _) (by decide +kernel)).mono ?_
  rintro e w2 ⟨v, rfl, hR, hb⟩
  have hbb := hb
  clear hb
  have HB' := Aside0.mk (below_then HB.out HB.out.size hbb); clear HB; have HB := HB'; clear HB'
  have HCa' := Aside0.mk (Kd.C_below HCa.out hbb); clear HCa; have HCa := HCa'; clear HCa'
  clear hbb
  obtain ⟨Ar, cr, rfl, hcr, hCr⟩ := Kd.R_reads hR
  clear hR
  have HCr := Aside0.mk hCr; clear hCr
  clear HCa
  go_wp2_with fail
  refine (lit_calls _ _ [1, 3] rfl (by decide)).mono ?_
  rintro e w3 ⟨ga, rfl, hC, hb⟩
  have hbb := hb
  clear hb
  have HB' := Aside0.mk (below_then HB.out HB.out.size hbb); clear HB; have HB := HB'; clear HB'
  have HCr' := Aside0.mk (Kd.C_below HCr.out hbb); clear HCr; have HCr := HCr'; clear HCr'
  clear hbb
  have HCa := Aside0.mk hC; clear hC
  go_wp2_with fail
  refine (lit_calls _ _ [2, 3] rfl (by decide)).mono ?_
  rintro e w4 ⟨gb, rfl, hC, hb⟩
  have hbb := hb
  clear hb
  have HB' := Aside0.mk (below_then HB.out HB.out.size hbb); clear HB; have HB := HB'; clear HB'
  have HCr' := Aside0.mk (Kd.C_below HCr.out hbb); clear HCr; have HCr := HCr'; clear HCr'
  have HCa' := Aside0.mk (Kd.C_below HCa.out hbb); clear HCa; have HCa := HCa'; clear HCa'
  clear hbb
  have HCb := Aside0.mk hC; clear hC
  go_wp2_with fail
  refine (hand_Beats.calls _ _ [1, 3] _ _ [2, 3] 5 0 _ HCa.out (Nat.le_refl _) HCb.out (Nat.le_refl _) (by decide +kernel)).mono ?_
  rintro e w5 ⟨rfl, hb⟩
  have hbb := hb
  clear hb
  have HB' := Aside0.mk (below_then HB.out HB.out.size hbb); clear HB; have HB := HB'; clear HB'
  have HCr' := Aside0.mk (Kd.C_below HCr.out hbb); clear HCr; have HCr := HCr'; clear HCr'
  have HCa' := Aside0.mk (Kd.C_below HCa.out hbb); clear HCa; have HCa := HCa'; clear HCa'
  have HCb' := Aside0.mk (Kd.C_below HCb.out hbb); clear HCb; have HCb := HCb'; clear HCb'
  clear hbb
  clear HCa HCb
  go_wp2_with fail
  refine (lit_calls _ _ [1, 2] rfl (by decide)).mono ?_
  rintro e w6 ⟨ga, rfl, hC, hb⟩
  have hbb := hb
  clear hb
  have HB' := Aside0.mk (below_then HB.out HB.out.size hbb); clear HB; have HB := HB'; clear HB'
  have HCr' := Aside0.mk (Kd.C_below HCr.out hbb); clear HCr; have HCr := HCr'; clear HCr'
  clear hbb
  have HCa := Aside0.mk hC; clear hC
  go_wp2_with fail
  refine (lit_calls _ _ [3, 4] rfl (by decide)).mono ?_
  rintro e w7 ⟨gb, rfl, hC, hb⟩
  have hbb := hb
  clear hb
  have HB' := Aside0.mk (below_then HB.out HB.out.size hbb); clear HB; have HB := HB'; clear HB'
  have HCr' := Aside0.mk (Kd.C_below HCr.out hbb); clear HCr; have HCr := HCr'; clear HCr'
  have HCa' := Aside0.mk (Kd.C_below HCa.out hbb); clear HCa; have HCa := HCa'; clear HCa'
  clear hbb
  have HCb := Aside0.mk hC; clear hC
  go_wp2_with fail
  refine (hand_Tails.calls _ _ [1, 2] _ _ [3, 4] 6 1 6 0 _ HCa.out (Nat.le_refl _) HCb.out (Nat.le_refl _) (by decide +kernel)).mono ?_
  rintro e w8 ⟨rfl, hb⟩
  have hbb := hb
  clear hb
  have HB' := Aside0.mk (below_then HB.out HB.out.size hbb); clear HB; have HB := HB'; clear HB'
  have HCr' := Aside0.mk (Kd.C_below HCr.out hbb); clear HCr; have HCr := HCr'; clear HCr'
  have HCa' := Aside0.mk (Kd.C_below HCa.out hbb); clear HCa; have HCa := HCa'; clear HCa'
  have HCb' := Aside0.mk (Kd.C_below HCb.out hbb); clear HCb; have HCb := HCb'; clear HCb'
  clear hbb
  clear HCa HCb
  go_wp2_with fail
  refine (lit_calls _ _ [1, 2] rfl (by decide)).mono ?_
  rintro e w9 ⟨ga, rfl, hC, hb⟩
  have hbb := hb
  clear hb
  have HB' := Aside0.mk (below_then HB.out HB.out.size hbb); clear HB; have HB := HB'; clear HB'
  have HCr' := Aside0.mk (Kd.C_below HCr.out hbb); clear HCr; have HCr := HCr'; clear HCr'
  clear hbb
  have HCa := Aside0.mk hC; clear hC
  go_wp2_with fail
  refine (lit_calls _ _ [3, 4] rfl (by decide)).mono ?_
  rintro e w10 ⟨gb, rfl, hC, hb⟩
  have hbb := hb
  clear hb
  have HB' := Aside0.mk (below_then HB.out HB.out.size hbb); clear HB; have HB := HB'; clear HB'
  have HCr' := Aside0.mk (Kd.C_below HCr.out hbb); clear HCr; have HCr := HCr'; clear HCr'
  have HCa' := Aside0.mk (Kd.C_below HCa.out hbb); clear HCa; have HCa := HCa'; clear HCa'
  clear hbb
  have HCb := Aside0.mk hC; clear hC
  go_wp2_with fail
  refine (hand_Chance.calls _ _ [1, 2] _ _ [3, 4] 1 3 0 _ HCa.out (Nat.le_refl _) HCb.out (Nat.le_refl _) (by decide +kernel)).mono ?_
  rintro e w11 ⟨rfl, hb⟩
  have hbb := hb
  clear hb
  have HB' := Aside0.mk (below_then HB.out HB.out.size hbb); clear HB; have HB := HB'; clear HB'
  have HCr' := Aside0.mk (Kd.C_below HCr.out hbb); clear HCr; have HCr := HCr'; clear HCr'
  have HCa' := Aside0.mk (Kd.C_below HCa.out hbb); clear HCa; have HCa := HCa'; clear HCa'
  have HCb' := Aside0.mk (Kd.C_below HCb.out hbb); clear HCb; have HCb := HCb'; clear HCb'
  clear hbb
  clear HCa HCb
  go_wp2_with fail
  refine (lit_calls' _ _ (size1 _ _) _ [1, 3] rfl (by decide)).mono ?_
  rintro e w12 ⟨ga, rfl, hC, hb⟩
  have hbb := below_then (below_alloc (Below.refl w11.heap.size w11) _) (by simp) hb
  have K9 := Aside0.mk (blk_below2 hb (blk_new w11 _))
  clear hb
  have HB' := Aside0.mk (below_then HB.out HB.out.size hbb); clear HB; have HB := HB'; clear HB'
  have HCr' := Aside0.mk (Kd.C_below HCr.out hbb); clear HCr; have HCr := HCr'; clear HCr'
  clear hbb
  have HCa := Aside0.mk hC; clear hC
  go_wp2_with fail
  refine (lit_calls _ _ [2, 4] rfl (by decide)).mono ?_
  rintro e w13 ⟨gb, rfl, hC, hb⟩
  have hbb := hb
  clear hb
  have HB' := Aside0.mk (below_then HB.out HB.out.size hbb); clear HB; have HB := HB'; clear HB'
  have HCr' := Aside0.mk (Kd.C_below HCr.out hbb); clear HCr; have HCr := HCr'; clear HCr'
  have HCa' := Aside0.mk (Kd.C_below HCa.out hbb); clear HCa; have HCa := HCa'; clear HCa'
  have K9' := Aside0.mk (blk_below2 hbb K9.out); clear K9; have K9 := K9'; clear K9'
  clear hbb
  have HCb := Aside0.mk hC; clear hC
  go_wp2_with fail
  refine (hand_Chance.calls _ _ [1, 3] _ _ [2, 4] 2 3 0 _ HCa.out (Nat.le_refl _) HCb.out (Nat.le_refl _) (by decide +kernel)).mono ?_
  rintro e w14 ⟨rfl, hb⟩
  have hbb := hb
  clear hb
  have HB' := Aside0.mk (below_then HB.out HB.out.size hbb); clear HB; have HB := HB'; clear HB'
  have HCr' := Aside0.mk (Kd.C_below HCr.out hbb); clear HCr; have HCr := HCr'; clear HCr'
  have HCa' := Aside0.mk (Kd.C_below HCa.out hbb); clear HCa; have HCa := HCa'; clear HCa'
  have HCb' := Aside0.mk (Kd.C_below HCb.out hbb); clear HCb; have HCb := HCb'; clear HCb'
  have K9' := Aside0.mk (blk_below2 hbb K9.out); clear K9; have K9 := K9'; clear K9'
  clear hbb
  clear HCa HCb
  go_wp2_with fail
  refine (lit_calls' _ _ (size1 _ _) _ [1, 2, 3] rfl (by decide)).mono ?_
  rintro e w15 ⟨ga, rfl, hC, hb⟩
  have hbb := below_then (below_alloc (Below.refl w14.heap.size w14) _) (by simp) hb
  have K11 := Aside0.mk (blk_below2 hb (blk_new w14 _))
  clear hb
  have HB' := Aside0.mk (below_then HB.out HB.out.size hbb); clear HB; have HB := HB'; clear HB'
  have HCr' := Aside0.mk (Kd.C_below HCr.out hbb); clear HCr; have HCr := HCr'; clear HCr'
  have K9' := Aside0.mk (blk_below2 hbb K9.out); clear K9; have K9 := K9'; clear K9'
  clear hbb
  have HCa := Aside0.mk hC; clear hC
  go_wp2_with fail
  refine (lit_calls _ _ [4, 4, 4] rfl (by decide)).mono ?_
  rintro e w16 ⟨gb, rfl, hC, hb⟩
  have hbb := hb
  clear hb
  have HB' := Aside0.mk (below_then HB.out HB.out.size hbb); clear HB; have HB := HB'; clear HB'
  have HCr' := Aside0.mk (Kd.C_below HCr.out hbb); clear HCr; have HCr := HCr'; clear HCr'
  have HCa' := Aside0.mk (Kd.C_below HCa.out hbb); clear HCa; have HCa := HCa'; clear HCa'
  have K9' := Aside0.mk (blk_below2 hbb K9.out); clear K9; have K9 := K9'; clear K9'
  have K11' := Aside0.mk (blk_below2 hbb K11.out); clear K11; have K11 := K11'; clear K11'
  clear hbb
  have HCb := Aside0.mk hC; clear hC
  go_wp2_with fail
  refine (hand_Paired.calls _ _ [1, 2, 3] _ _ [4, 4, 4] 12 1 4 0 _ HCa.out (Nat.le_refl _) HCb.out (Nat.le_refl _) (by decide +kernel)).mono ?_
  rintro e w17 ⟨rfl, hb⟩
  have hbb := hb
  clear hb
  have HB' := Aside0.mk (below_then HB.out HB.out.size hbb); clear HB; have HB := HB'; clear HB'
  have HCr' := Aside0.mk (Kd.C_below HCr.out hbb); clear HCr; have HCr := HCr'; clear HCr'
  have HCa' := Aside0.mk (Kd.C_below HCa.out hbb); clear HCa; have HCa := HCa'; clear HCa'
  have HCb' := Aside0.mk (Kd.C_below HCb.out hbb); clear HCb; have HCb := HCb'; clear HCb'
  have K9' := Aside0.mk (blk_below2 hbb K9.out); clear K9; have K9 := K9'; clear K9'
  have K11' := Aside0.mk (blk_below2 hbb K11.out); clear K11; have K11 := K11'; clear K11'
  clear hbb
  clear HCa HCb
  go_wp2_with fail
  refine (lit_calls' _ _ (size1 _ _) _ [1, 5] rfl (by decide)).mono ?_
  rintro e w18 ⟨ga, rfl, hC, hb⟩
  have hbb := below_then (below_alloc (Below.refl w17.heap.size w17) _) (by simp) hb
  have K14 := Aside0.mk (blk_below2 hb (blk_new w17 _))
  clear hb
  have HB' := Aside0.mk (below_then HB.out HB.out.size hbb); clear HB; have HB := HB'; clear HB'
  have HCr' := Aside0.mk (Kd.C_below HCr.out hbb); clear HCr; have HCr := HCr'; clear HCr'
  have K9' := Aside0.mk (blk_below2 hbb K9.out); clear K9; have K9 := K9'; clear K9'
  have K11' := Aside0.mk (blk_below2 hbb K11.out); clear K11; have K11 := K11'; clear K11'
  clear hbb
  have HCa := Aside0.mk hC; clear hC
  go_wp2_with fail
  refine (lit_calls _ _ [3, 4] rfl (by decide)).mono ?_
  rintro e w19 ⟨gb, rfl, hC, hb⟩
  have hbb := hb
  clear hb
  have HB' := Aside0.mk (below_then HB.out HB.out.size hbb); clear HB; have HB := HB'; clear HB'
  have HCr' := Aside0.mk (Kd.C_below HCr.out hbb); clear HCr; have HCr := HCr'; clear HCr'
  have HCa' := Aside0.mk (Kd.C_below HCa.out hbb); clear HCa; have HCa := HCa'; clear HCa'
  have K9' := Aside0.mk (blk_below2 hbb K9.out); clear K9; have K9 := K9'; clear K9'
  have K11' := Aside0.mk (blk_below2 hbb K11.out); clear K11; have K11 := K11'; clear K11'
  have K14' := Aside0.mk (blk_below2 hbb K14.out); clear K14; have K14 := K14'; clear K14'
  clear hbb
  have HCb := Aside0.mk hC; clear hC
  go_wp2_with fail
  refine (hand_Paired.calls _ _ [1, 5] _ _ [3, 4] 2 1 1 0 _ HCa.out (Nat.le_refl _) HCb.out (Nat.le_refl _) (by decide +kernel)).mono ?_
  rintro e w20 ⟨rfl, hb⟩
  have hbb := hb
  clear hb
  have HB' := Aside0.mk (below_then HB.out HB.out.size hbb); clear HB; have HB := HB'; clear HB'
  have HCr' := Aside0.mk (Kd.C_below HCr.out hbb); clear HCr; have HCr := HCr'; clear HCr'
  have HCa' := Aside0.mk (Kd.C_below HCa.out hbb); clear HCa; have HCa := HCa'; clear HCa'
  have HCb' := Aside0.mk (Kd.C_below HCb.out hbb); clear HCb; have HCb := HCb'; clear HCb'
  have K9' := Aside0.mk (blk_below2 hbb K9.out); clear K9; have K9 := K9'; clear K9'
  have K11' := Aside0.mk (blk_below2 hbb K11.out); clear K11; have K11 := K11'; clear K11'
  have K14' := Aside0.mk (blk_below2 hbb K14.out); clear K14; have K14 := K14'; clear K14'
  clear hbb
  clear HCa HCb
  go_wp2_with fail
  refine (lit_calls' _ _ (size1 _ _) _ [5, 2, 5, 8] rfl (by decide)).mono ?_
  rintro e w21 ⟨ga, rfl, hC, hb⟩
  have hbb := below_then (below_alloc (Below.refl w20.heap.size w20) _) (by simp) hb
  have K17 := Aside0.mk (blk_below2 hb (blk_new w20 _))
  clear hb
  have HB' := Aside0.mk (below_then HB.out HB.out.size hbb); clear HB; have HB := HB'; clear HB'
  have HCr' := Aside0.mk (Kd.C_below HCr.out hbb); clear HCr; have HCr := HCr'; clear HCr'
  have K9' := Aside0.mk (blk_below2 hbb K9.out); clear K9; have K9 := K9'; clear K9'
  have K11' := Aside0.mk (blk_below2 hbb K11.out); clear K11; have K11 := K11'; clear K11'
  have K14' := Aside0.mk (blk_below2 hbb K14.out); clear K14; have K14 := K14'; clear K14'
  clear hbb
  have HCa := Aside0.mk hC; clear hC
  go_wp2_with fail
  refine (pianolalaw10_numbers.calls 20 Ar cr [5, 2, 5, 8] _ _ [5, 2, 5, 8] true _ HCr.out hcr HCa.out (Nat.le_refl _) (by decide +kernel)).mono ?_
  rintro e w22 ⟨rfl, hd⟩
  have hb := hd.below; clear hd
  have hbb := hb
  clear hb
  have HB' := Aside0.mk (below_then HB.out HB.out.size hbb); clear HB; have HB := HB'; clear HB'
  have HCr' := Aside0.mk (Kd.C_below HCr.out hbb); clear HCr; have HCr := HCr'; clear HCr'
  have HCa' := Aside0.mk (Kd.C_below HCa.out hbb); clear HCa; have HCa := HCa'; clear HCa'
  have K9' := Aside0.mk (blk_below2 hbb K9.out); clear K9; have K9 := K9'; clear K9'
  have K11' := Aside0.mk (blk_below2 hbb K11.out); clear K11; have K11 := K11'; clear K11'
  have K14' := Aside0.mk (blk_below2 hbb K14.out); clear K14; have K14 := K14'; clear K14'
  have K17' := Aside0.mk (blk_below2 hbb K17.out); clear K17; have K17 := K17'; clear K17'
  clear hbb
  clear HCa HCr
  go_wp2_with fail
  refine (hand_Within.calls _ 1 [⟨0, 3⟩] _ 1 [⟨2, 2⟩] 0 2 0 _ (Kd.C_below (C_litS w22 0 3) (below_alloc (Below.refl _ _) _)) (Nat.le_refl _) (C_litS' _ _ (by simp only [size1]) 2 2) (Nat.le_refl _) (by decide +kernel)).mono ?_
  rintro e w23 ⟨rfl, hb⟩
  have hbb := below_then (below_alloc (below_alloc (Below.refl w22.heap.size w22) _) _) (by simp only [World.size_alloc]; omega) hb
  clear hb
  have HB' := Aside0.mk (below_then HB.out HB.out.size hbb); clear HB; have HB := HB'; clear HB'
  have K9' := Aside0.mk (blk_below2 hbb K9.out); clear K9; have K9 := K9'; clear K9'
  have K11' := Aside0.mk (blk_below2 hbb K11.out); clear K11; have K11 := K11'; clear K11'
  have K14' := Aside0.mk (blk_below2 hbb K14.out); clear K14; have K14 := K14'; clear K14'
  have K17' := Aside0.mk (blk_below2 hbb K17.out); clear K17; have K17 := K17'; clear K17'
  clear hbb
  go_wp2_with fail
  refine (lit_calls' _ _ (by simp only [size1]) _ [5, 6] rfl (by decide)).mono ?_
  rintro e wq ⟨gq, rfl, hC, hb⟩
  have hz := size1 w23 (.cells #[.int .i64 0, .int .i64 2] 41)
  have hK := blk_below2 hb (blk_alloc (blk_alloc (blk_alloc (blk_new w23 _) _) _) _)
  have hQ := C_rows2 _ wq 1 2 3 4 _ _ _ hz (by simp only [size1]) (by simp only [size1]) hb
  have hbb := below_then (below_alloc (Below.refl w23.heap.size w23) _) (by simp) hQ.2
  have K19 := Aside0.mk hK; have HCQ := Aside0.mk hQ.1; have HCa := Aside0.mk hC; clear hK hQ hC hb hz
  have HB' := Aside0.mk (below_then HB.out HB.out.size hbb); clear HB; have HB := HB'; clear HB'
  have K9' := Aside0.mk (blk_below2 hbb K9.out); clear K9; have K9 := K9'; clear K9'
  have K11' := Aside0.mk (blk_below2 hbb K11.out); clear K11; have K11 := K11'; clear K11'
  have K14' := Aside0.mk (blk_below2 hbb K14.out); clear K14; have K14 := K14'; clear K14'
  have K17' := Aside0.mk (blk_below2 hbb K17.out); clear K17; have K17 := K17'; clear K17'
  clear hbb
  go_wp2_with fail
  refine (pianolalaw10_part.calls 1 3 1 3 _ rfl).mono ?_
  rintro e w24 ⟨rfl, hb⟩
  have hbb := hb
  clear hb
  have HB' := Aside0.mk (below_then HB.out HB.out.size hbb); clear HB; have HB := HB'; clear HB'
  have HCa' := Aside0.mk (Kd.C_below HCa.out hbb); clear HCa; have HCa := HCa'; clear HCa'
  have HCQ' := Aside0.mk (Kd.C_below HCQ.out hbb); clear HCQ; have HCQ := HCQ'; clear HCQ'
  have K9' := Aside0.mk (blk_below2 hbb K9.out); clear K9; have K9 := K9'; clear K9'
  have K11' := Aside0.mk (blk_below2 hbb K11.out); clear K11; have K11 := K11'; clear K11'
  have K14' := Aside0.mk (blk_below2 hbb K14.out); clear K14; have K14 := K14'; clear K14'
  have K17' := Aside0.mk (blk_below2 hbb K17.out); clear K17; have K17 := K17'; clear K17'
  have K19' := Aside0.mk (blk_below2 hbb K19.out); clear K19; have K19 := K19'; clear K19'
  clear hbb
  go_wp2_with fail
  refine (hand_Judge.calls _ 2 [[1, 2], [3, 4]] _ _ [5, 6] 1 3 [1, 1] 0 0 _ HCQ.out (Nat.le_refl _) HCa.out (Nat.le_refl _) (by decide +kernel)).mono ?_
  rintro e w25 ⟨v, rfl, hR, hb⟩
  have hbb := hb
  clear hb
  have HB' := Aside0.mk (below_then HB.out HB.out.size hbb); clear HB; have HB := HB'; clear HB'
  have HCa' := Aside0.mk (Kd.C_below HCa.out hbb); clear HCa; have HCa := HCa'; clear HCa'
  have HCQ' := Aside0.mk (Kd.C_below HCQ.out hbb); clear HCQ; have HCQ := HCQ'; clear HCQ'
  have K9' := Aside0.mk (blk_below2 hbb K9.out); clear K9; have K9 := K9'; clear K9'
  have K11' := Aside0.mk (blk_below2 hbb K11.out); clear K11; have K11 := K11'; clear K11'
  have K14' := Aside0.mk (blk_below2 hbb K14.out); clear K14; have K14 := K14'; clear K14'
  have K17' := Aside0.mk (blk_below2 hbb K17.out); clear K17; have K17 := K17'; clear K17'
  have K19' := Aside0.mk (blk_below2 hbb K19.out); clear K19; have K19 := K19'; clear K19'
  clear hbb
  obtain ⟨Av, cv, rfl, hcv, hCv⟩ := Kd.R_reads hR
  clear hR
  have HCv := Aside0.mk hCv; clear hCv
  clear HCa HCQ
  go_upto_region 12 with fail
  have HK := Aside0.mk (WK.mk K9.out K11.out K14.out K17.out K19.out : WK _ _ _ _ _ w25)
  clear K9 K11 K14 K17 K19
  have hbd : Below w25.heap.size w25 w25.drew := pw_below_drewN (Below.refl _ _) 1
  have HK1 := Aside0.mk (HK.out.below hbd)
  have HCv1 := Aside0.mk (Kd.C_below HCv.out hbd); clear HCv; have HCv := HCv1; clear HCv1
  have HB1 := Aside0.mk (below_then HB.out HB.out.size hbd); clear HB; have HB := HB1; clear HB1; clear hbd
  refine start_ (n := 50) (S := WK _ _ _ _ _) (ds := []) #[false, false, false, false, false, false, false, false, false, false, false, false, false, false, false, false, false, false, false, false, false, false, false, false, false, false, false, false, false, false, false, false, false, false, false, false, false, false, false, false, false, false, false, false, false, false, false, false, false, false] (by kernel_rfl) rfl rfl HK1.out (fun hHeld => ?_)
  refine with_tabW wk12_tab wk12_bits (fun HT_ HW_ => ?_)
  clear HK HK1
  generalize w25.drew = wd at *
  refine take_ (i := 0) (N := some 148) (v := ?_) (a' := ?_) #[true, false, false, false, false, false, false, false, false, false, false, false, false, false, false, false, false, false, false, false, false, false, false, false, false, false, false, false, false, false, false, false, false, false, false, false, false, false, false, false, false, false, false, false, false, false, false, false, false, false] rfl rfl (take_ofW HT_.out HW_.out (by kernel_rfl)) (fun _ _ _ h => h) (Or.inl ⟨by rfl, ?_⟩) hHeld ?_ ?_
  rotate_left
  · rintro w' s
    clear s
    go_simp
    with_reducible rfl
  rotate_left
  · simp only [Act.put, List.setIfInBounds_toArray, List.set_cons_zero, List.set_cons_succ, i64_w, i32_w]
    rfl
  refine take_ (i := 1) (N := some 149) (v := ?_) (a' := ?_) #[true, true, false, false, false, false, false, false, false, false, false, false, false, false, false, false, false, false, false, false, false, false, false, false, false, false, false, false, false, false, false, false, false, false, false, false, false, false, false, false, false, false, false, false, false, false, false, false, false, false] rfl rfl (take_ofW HT_.out HW_.out (by kernel_rfl)) (fun _ _ _ h => h) (Or.inl ⟨by rfl, ?_⟩) hHeld ?_ ?_
  rotate_left
  · rintro w' s
    clear s
    go_simp
    with_reducible rfl
  rotate_left
  · simp only [Act.put, List.setIfInBounds_toArray, List.set_cons_zero, List.set_cons_succ, i64_w, i32_w]
    rfl
  refine take_ (i := 2) (N := some 150) (v := ?_) (a' := ?_) #[true, true, true, false, false, false, false, false, false, false, false, false, false, false, false, false, false, false, false, false, false, false, false, false, false, false, false, false, false, false, false, false, false, false, false, false, false, false, false, false, false, false, false, false, false, false, false, false, false, false] rfl rfl (take_ofW HT_.out HW_.out (by kernel_rfl)) (fun _ _ _ h => h) (Or.inl ⟨by rfl, ?_⟩) hHeld ?_ ?_
  rotate_left
  · rintro w' s
    clear s
    go_simp
    with_reducible rfl
  rotate_left
  · simp only [Act.put, List.setIfInBounds_toArray, List.set_cons_zero, List.set_cons_succ, i64_w, i32_w]
    rfl
  refine take_ (i := 3) (N := some 151) (v := ?_) (a' := ?_) #[true, true, true, true, false, false, false, false, false, false, false, false, false, false, false, false, false, false, false, false, false, false, false, false, false, false, false, false, false, false, false, false, false, false, false, false, false, false, false, false, false, false, false, false, false, false, false, false, false, false] rfl rfl (take_ofW HT_.out HW_.out (by kernel_rfl)) (fun _ _ _ h => h) (Or.inl ⟨by rfl, ?_⟩) hHeld ?_ ?_
  rotate_left
  · rintro w' s
    clear s
    go_simp
    with_reducible rfl
  rotate_left
  · simp only [Act.put, List.setIfInBounds_toArray, List.set_cons_zero, List.set_cons_succ, i64_w, i32_w]
    rfl
  refine take_ (i := 4) (N := some 152) (v := ?_) (a' := ?_) #[true, true, true, true, true, false, false, false, false, false, false, false, false, false, false, false, false, false, false, false, false, false, false, false, false, false, false, false, false, false, false, false, false, false, false, false, false, false, false, false, false, false, false, false, false, false, false, false, false, false] rfl rfl (take_ofW HT_.out HW_.out (by kernel_rfl)) (fun _ _ _ h => h) (Or.inl ⟨by rfl, ?_⟩) hHeld ?_ ?_
  rotate_left
  · rintro w' s
    clear s
    go_simp
    with_reducible rfl
  rotate_left
  · simp only [Act.put, List.setIfInBounds_toArray, List.set_cons_zero, List.set_cons_succ, i64_w, i32_w]
    rfl
  refine take_ (i := 5) (N := some 153) (v := ?_) (a' := ?_) #[true, true, true, true, true, true, false, false, false, false, false, false, false, false, false, false, false, false, false, false, false, false, false, false, false, false, false, false, false, false, false, false, false, false, false, false, false, false, false, false, false, false, false, false, false, false, false, false, false, false] rfl rfl (take_ofW HT_.out HW_.out (by kernel_rfl)) (fun _ _ _ h => h) (Or.inl ⟨by rfl, ?_⟩) hHeld ?_ ?_
  rotate_left
  · rintro w' s
    clear s
    go_simp
    with_reducible rfl
  rotate_left
  · simp only [Act.put, List.setIfInBounds_toArray, List.set_cons_zero, List.set_cons_succ, i64_w, i32_w]
    rfl
  refine take_ (i := 6) (N := some 154) (v := ?_) (a' := ?_) #[true, true, true, true, true, true, true, false, false, false, false, false, false, false, false, false, false, false, false, false, false, false, false, false, false, false, false, false, false, false, false, false, false, false, false, false, false, false, false, false, false, false, false, false, false, false, false, false, false, false] rfl rfl (take_ofW HT_.out HW_.out (by kernel_rfl)) (fun _ _ _ h => h) (Or.inl ⟨by rfl, ?_⟩) hHeld ?_ ?_
  rotate_left
  · rintro w' s
    clear s
    go_simp
    with_reducible rfl
  rotate_left
  · simp only [Act.put, List.setIfInBounds_toArray, List.set_cons_zero, List.set_cons_succ, i64_w, i32_w]
    rfl
  refine take_ (i := 7) (N := some 155) (v := ?_) (a' := ?_) #[true, true, true, true, true, true, true, true, false, false, false, false, false, false, false, false, false, false, false, false, false, false, false, false, false, false, false, false, false, false, false, false, false, false, false, false, false, false, false, false, false, false, false, false, false, false, false, false, false, false] rfl rfl (take_ofW HT_.out HW_.out (by kernel_rfl)) (fun _ _ _ h => h) (Or.inl ⟨by rfl, ?_⟩) hHeld ?_ ?_
  rotate_left
  · rintro w' s
    have c0 := (blk_cell s.k9 0).trans (rfl : _ = some (Value.int .i64 1))
    have c1 := (blk_cell s.k9 1).trans (rfl : _ = some (Value.int .i64 3))
    clear s
    go_simp
    with_reducible rfl
  rotate_left
  · simp only [Act.put, List.setIfInBounds_toArray, List.set_cons_zero, List.set_cons_succ, i64_w, i32_w]
    rfl
  refine one_ (i := 8) (N := some 156) #[true, true, true, true, true, true, true, true, true, false, false, false, false, false, false, false, false, false, false, false, false, false, false, false, false, false, false, false, false, false, false, false, false, false, false, false, false, false, false, false, false, false, false, false, false, false, false, false, false, false] rfl rfl (one_of HT_.out (by kernel_rfl)) (by decide) (fun K hK => ?_)
  refine goes_ Try.func38 (by kernel_rfl) rfl #[.int .i64 1, .int .i64 3] (by rfl) rfl rfl (by (try simp only [List.map_toArray, List.map_cons, List.map_nil]); first | done | rfl) ?_
  refine (pianolalaw10_part.calls 1 3 1 3 _ rfl).mono ?_
  rintro e wp1 ⟨rfl, hb⟩
  refine ⟨_, rfl, ?_⟩
  have hk2 := hHeld.below hb
  have HB' := Aside0.mk (below_then HB.out HB.out.size hb); clear HB; have HB := HB'; clear HB'
  have HCv' := Aside0.mk (Kd.C_below HCv.out hb); clear HCv; have HCv := HCv'; clear HCv'
  clear hb
  refine hK.out _ _ hk2 (fun hHeld => ?_)
  clear hK K hk2
  refine norm_ (a' := ?_) ?_ ?_
  rotate_left
  · show Act.put _ (some 156) _ = _
    simp only [Act.put, List.setIfInBounds_toArray, List.set_cons_zero, List.set_cons_succ, i64_w, i32_w]
    rfl
  refine take_ (i := 9) (N := some 157) (v := ?_) (a' := ?_) #[true, true, true, true, true, true, true, true, true, true, false, false, false, false, false, false, false, false, false, false, false, false, false, false, false, false, false, false, false, false, false, false, false, false, false, false, false, false, false, false, false, false, false, false, false, false, false, false, false, false] rfl rfl (take_ofW HT_.out HW_.out (by kernel_rfl)) (fun _ _ _ h => h) (Or.inl ⟨by rfl, ?_⟩) hHeld ?_ ?_
  rotate_left
  · rintro w' s
    clear s
    go_simp
    with_reducible rfl
  rotate_left
  · simp only [Act.put, List.setIfInBounds_toArray, List.set_cons_zero, List.set_cons_succ, i64_w, i32_w]
    rfl
  refine take_ (i := 10) (N := some 158) (v := ?_) (a' := ?_) #[true, true, true, true, true, true, true, true, true, true, true, false, false, false, false, false, false, false, false, false, false, false, false, false, false, false, false, false, false, false, false, false, false, false, false, false, false, false, false, false, false, false, false, false, false, false, false, false, false, false] rfl rfl (take_ofW HT_.out HW_.out (by kernel_rfl)) (fun _ _ _ h => h) (Or.inl ⟨by rfl, ?_⟩) hHeld ?_ ?_
  rotate_left
  · rintro w' s
    clear s
    go_simp
    with_reducible rfl
  rotate_left
  · simp only [Act.put, List.setIfInBounds_toArray, List.set_cons_zero, List.set_cons_succ, i64_w, i32_w]
    rfl
  refine take_ (i := 11) (N := some 159) (v := ?_) (a' := ?_) #[true, true, true, true, true, true, true, true, true, true, true, true, false, false, false, false, false, false, false, false, false, false, false, false, false, false, false, false, false, false, false, false, false, false, false, false, false, false, false, false, false, false, false, false, false, false, false, false, false, false] rfl rfl (take_ofW HT_.out HW_.out (by kernel_rfl)) (fun _ _ _ h => h) (Or.inl ⟨by rfl, ?_⟩) hHeld ?_ ?_
  rotate_left
  · rintro w' s
    clear s
    go_simp
    with_reducible rfl
  rotate_left
  · simp only [Act.put, List.setIfInBounds_toArray, List.set_cons_zero, List.set_cons_succ, i64_w, i32_w]
    rfl
  refine take_ (i := 12) (N := some 160) (v := ?_) (a' := ?_) #[true, true, true, true, true, true, true, true, true, true, true, true, true, false, false, false, false, false, false, false, false, false, false, false, false, false, false, false, false, false, false, false, false, false, false, false, false, false, false, false, false, false, false, false, false, false, false, false, false, false] rfl rfl (take_ofW HT_.out HW_.out (by kernel_rfl)) (fun _ _ _ h => h) (Or.inl ⟨by rfl, ?_⟩) hHeld ?_ ?_
  rotate_left
  · rintro w' s
    have c0 := (blk_cell s.k11 0).trans (rfl : _ = some (Value.int .i64 2))
    have c1 := (blk_cell s.k11 1).trans (rfl : _ = some (Value.int .i64 3))
    clear s
    go_simp
    with_reducible rfl
  rotate_left
  · simp only [Act.put, List.setIfInBounds_toArray, List.set_cons_zero, List.set_cons_succ, i64_w, i32_w]
    rfl
  refine one_ (i := 13) (N := some 161) #[true, true, true, true, true, true, true, true, true, true, true, true, true, true, false, false, false, false, false, false, false, false, false, false, false, false, false, false, false, false, false, false, false, false, false, false, false, false, false, false, false, false, false, false, false, false, false, false, false, false] rfl rfl (one_of HT_.out (by kernel_rfl)) (by decide) (fun K hK => ?_)
  refine goes_ Try.func38 (by kernel_rfl) rfl #[.int .i64 2, .int .i64 3] (by rfl) rfl rfl (by (try simp only [List.map_toArray, List.map_cons, List.map_nil]); first | done | rfl) ?_
  refine (pianolalaw10_part.calls 2 3 2 3 _ rfl).mono ?_
  rintro e wp2 ⟨rfl, hb⟩
  refine ⟨_, rfl, ?_⟩
  have hk2 := hHeld.below hb
  have HB' := Aside0.mk (below_then HB.out HB.out.size hb); clear HB; have HB := HB'; clear HB'
  have HCv' := Aside0.mk (Kd.C_below HCv.out hb); clear HCv; have HCv := HCv'; clear HCv'
  clear hb
  refine hK.out _ _ hk2 (fun hHeld => ?_)
  clear hK K hk2
  refine norm_ (a' := ?_) ?_ ?_
  rotate_left
  · show Act.put _ (some 161) _ = _
    simp only [Act.put, List.setIfInBounds_toArray, List.set_cons_zero, List.set_cons_succ, i64_w, i32_w]
    rfl
  refine take_ (i := 14) (N := some 162) (v := ?_) (a' := ?_) #[true, true, true, true, true, true, true, true, true, true, true, true, true, true, true, false, false, false, false, false, false, false, false, false, false, false, false, false, false, false, false, false, false, false, false, false, false, false, false, false, false, false, false, false, false, false, false, false, false, false] rfl rfl (take_ofW HT_.out HW_.out (by kernel_rfl)) (fun _ _ _ h => h) (Or.inl ⟨by rfl, ?_⟩) hHeld ?_ ?_
  rotate_left
  · rintro w' s
    clear s
    go_simp
    with_reducible rfl
  rotate_left
  · simp only [Act.put, List.setIfInBounds_toArray, List.set_cons_zero, List.set_cons_succ, i64_w, i32_w]
    rfl
  refine take_ (i := 15) (N := some 163) (v := ?_) (a' := ?_) #[true, true, true, true, true, true, true, true, true, true, true, true, true, true, true, true, false, false, false, false, false, false, false, false, false, false, false, false, false, false, false, false, false, false, false, false, false, false, false, false, false, false, false, false, false, false, false, false, false, false] rfl rfl (take_ofW HT_.out HW_.out (by kernel_rfl)) (fun _ _ _ h => h) (Or.inl ⟨by rfl, ?_⟩) hHeld ?_ ?_
  rotate_left
  · rintro w' s
    clear s
    go_simp
    with_reducible rfl
  rotate_left
  · simp only [Act.put, List.setIfInBounds_toArray, List.set_cons_zero, List.set_cons_succ, i64_w, i32_w]
    rfl
  refine take_ (i := 16) (N := some 164) (v := ?_) (a' := ?_) #[true, true, true, true, true, true, true, true, true, true, true, true, true, true, true, true, true, false, false, false, false, false, false, false, false, false, false, false, false, false, false, false, false, false, false, false, false, false, false, false, false, false, false, false, false, false, false, false, false, false] rfl rfl (take_ofW HT_.out HW_.out (by kernel_rfl)) (fun _ _ _ h => h) (Or.inl ⟨by rfl, ?_⟩) hHeld ?_ ?_
  rotate_left
  · rintro w' s
    clear s
    go_simp
    with_reducible rfl
  rotate_left
  · simp only [Act.put, List.setIfInBounds_toArray, List.set_cons_zero, List.set_cons_succ, i64_w, i32_w]
    rfl
  refine take_ (i := 17) (N := some 165) (v := ?_) (a' := ?_) #[true, true, true, true, true, true, true, true, true, true, true, true, true, true, true, true, true, true, false, false, false, false, false, false, false, false, false, false, false, false, false, false, false, false, false, false, false, false, false, false, false, false, false, false, false, false, false, false, false, false] rfl rfl (take_ofW HT_.out HW_.out (by kernel_rfl)) (fun _ _ _ h => h) (Or.inl ⟨by rfl, ?_⟩) hHeld ?_ ?_
  rotate_left
  · rintro w' s
    clear s
    go_simp
    with_reducible rfl
  rotate_left
  · simp only [Act.put, List.setIfInBounds_toArray, List.set_cons_zero, List.set_cons_succ, i64_w, i32_w]
    rfl
  refine take_ (i := 18) (N := some 166) (v := ?_) (a' := ?_) #[true, true, true, true, true, true, true, true, true, true, true, true, true, true, true, true, true, true, true, false, false, false, false, false, false, false, false, false, false, false, false, false, false, false, false, false, false, false, false, false, false, false, false, false, false, false, false, false, false, false] rfl rfl (take_ofW HT_.out HW_.out (by kernel_rfl)) (fun _ _ _ h => h) (Or.inl ⟨by rfl, ?_⟩) hHeld ?_ ?_
  rotate_left
  · rintro w' s
    clear s
    go_simp
    with_reducible rfl
  rotate_left
  · simp only [Act.put, List.setIfInBounds_toArray, List.set_cons_zero, List.set_cons_succ, i64_w, i32_w]
    rfl
  refine take_ (i := 19) (N := some 167) (v := ?_) (a' := ?_) #[true, true, true, true, true, true, true, true, true, true, true, true, true, true, true, true, true, true, true, true, false, false, false, false, false, false, false, false, false, false, false, false, false, false, false, false, false, false, false, false, false, false, false, false, false, false, false, false, false, false] rfl rfl (take_ofW HT_.out HW_.out (by kernel_rfl)) (fun _ _ _ h => h) (Or.inl ⟨by rfl, ?_⟩) hHeld ?_ ?_
  rotate_left
  · rintro w' s
    clear s
    go_simp
    with_reducible rfl
  rotate_left
  · simp only [Act.put, List.setIfInBounds_toArray, List.set_cons_zero, List.set_cons_succ, i64_w, i32_w]
    rfl
  refine take_ (i := 20) (N := some 168) (v := ?_) (a' := ?_) #[true, true, true, true, true, true, true, true, true, true, true, true, true, true, true, true, true, true, true, true, true, false, false, false, false, false, false, false, false, false, false, false, false, false, false, false, false, false, false, false, false, false, false, false, false, false, false, false, false, false] rfl rfl (take_ofW HT_.out HW_.out (by kernel_rfl)) (fun _ _ _ h => h) (Or.inl ⟨by rfl, ?_⟩) hHeld ?_ ?_
  rotate_left
  · rintro w' s
    clear s
    go_simp
    with_reducible rfl
  rotate_left
  · simp only [Act.put, List.setIfInBounds_toArray, List.set_cons_zero, List.set_cons_succ, i64_w, i32_w]
    rfl
  refine take_ (i := 21) (N := some 169) (v := ?_) (a' := ?_) #[true, true, true, true, true, true, true, true, true, true, true, true, true, true, true, true, true, true, true, true, true, true, false, false, false, false, false, false, false, false, false, false, false, false, false, false, false, false, false, false, false, false, false, false, false, false, false, false, false, false] rfl rfl (take_ofW HT_.out HW_.out (by kernel_rfl)) (fun _ _ _ h => h) (Or.inl ⟨by rfl, ?_⟩) hHeld ?_ ?_
  rotate_left
  · rintro w' s
    have c0 := (blk_cell s.k14 0).trans (rfl : _ = some (Value.int .i64 1))
    have c1 := (blk_cell s.k14 1).trans (rfl : _ = some (Value.int .i64 4))
    clear s
    go_simp
    with_reducible rfl
  rotate_left
  · simp only [Act.put, List.setIfInBounds_toArray, List.set_cons_zero, List.set_cons_succ, i64_w, i32_w]
    rfl
  refine one_ (i := 22) (N := some 170) #[true, true, true, true, true, true, true, true, true, true, true, true, true, true, true, true, true, true, true, true, true, true, true, false, false, false, false, false, false, false, false, false, false, false, false, false, false, false, false, false, false, false, false, false, false, false, false, false, false, false] rfl rfl (one_of HT_.out (by kernel_rfl)) (by decide) (fun K hK => ?_)
  refine goes_ Try.func38 (by kernel_rfl) rfl #[.int .i64 1, .int .i64 4] (by rfl) rfl rfl (by (try simp only [List.map_toArray, List.map_cons, List.map_nil]); first | done | rfl) ?_
  refine (pianolalaw10_part.calls 1 4 1 4 _ rfl).mono ?_
  rintro e wp3 ⟨rfl, hb⟩
  refine ⟨_, rfl, ?_⟩
  have hk2 := hHeld.below hb
  have HB' := Aside0.mk (below_then HB.out HB.out.size hb); clear HB; have HB := HB'; clear HB'
  have HCv' := Aside0.mk (Kd.C_below HCv.out hb); clear HCv; have HCv := HCv'; clear HCv'
  clear hb
  refine hK.out _ _ hk2 (fun hHeld => ?_)
  clear hK K hk2
  refine norm_ (a' := ?_) ?_ ?_
  rotate_left
  · show Act.put _ (some 170) _ = _
    simp only [Act.put, List.setIfInBounds_toArray, List.set_cons_zero, List.set_cons_succ, i64_w, i32_w]
    rfl
  refine take_ (i := 23) (N := some 171) (v := ?_) (a' := ?_) #[true, true, true, true, true, true, true, true, true, true, true, true, true, true, true, true, true, true, true, true, true, true, true, true, false, false, false, false, false, false, false, false, false, false, false, false, false, false, false, false, false, false, false, false, false, false, false, false, false, false] rfl rfl (take_ofW HT_.out HW_.out (by kernel_rfl)) (fun _ _ _ h => h) (Or.inl ⟨by rfl, ?_⟩) hHeld ?_ ?_
  rotate_left
  · rintro w' s
    clear s
    go_simp
    with_reducible rfl
  rotate_left
  · simp only [Act.put, List.setIfInBounds_toArray, List.set_cons_zero, List.set_cons_succ, i64_w, i32_w]
    rfl
  refine take_ (i := 24) (N := some 172) (v := ?_) (a' := ?_) #[true, true, true, true, true, true, true, true, true, true, true, true, true, true, true, true, true, true, true, true, true, true, true, true, true, false, false, false, false, false, false, false, false, false, false, false, false, false, false, false, false, false, false, false, false, false, false, false, false, false] rfl rfl (take_ofW HT_.out HW_.out (by kernel_rfl)) (fun _ _ _ h => h) (Or.inl ⟨by rfl, ?_⟩) hHeld ?_ ?_
  rotate_left
  · rintro w' s
    clear s
    go_simp
    with_reducible rfl
  rotate_left
  · simp only [Act.put, List.setIfInBounds_toArray, List.set_cons_zero, List.set_cons_succ, i64_w, i32_w]
    rfl
  refine take_ (i := 25) (N := some 173) (v := ?_) (a' := ?_) #[true, true, true, true, true, true, true, true, true, true, true, true, true, true, true, true, true, true, true, true, true, true, true, true, true, true, false, false, false, false, false, false, false, false, false, false, false, false, false, false, false, false, false, false, false, false, false, false, false, false] rfl rfl (take_ofW HT_.out HW_.out (by kernel_rfl)) (fun _ _ _ h => h) (Or.inl ⟨by rfl, ?_⟩) hHeld ?_ ?_
  rotate_left
  · rintro w' s
    clear s
    go_simp
    with_reducible rfl
  rotate_left
  · simp only [Act.put, List.setIfInBounds_toArray, List.set_cons_zero, List.set_cons_succ, i64_w, i32_w]
    rfl
  refine take_ (i := 26) (N := some 174) (v := ?_) (a' := ?_) #[true, true, true, true, true, true, true, true, true, true, true, true, true, true, true, true, true, true, true, true, true, true, true, true, true, true, true, false, false, false, false, false, false, false, false, false, false, false, false, false, false, false, false, false, false, false, false, false, false, false] rfl rfl (take_ofW HT_.out HW_.out (by kernel_rfl)) (fun _ _ _ h => h) (Or.inl ⟨by rfl, ?_⟩) hHeld ?_ ?_
  rotate_left
  · rintro w' s
    clear s
    go_simp
    with_reducible rfl
  rotate_left
  · simp only [Act.put, List.setIfInBounds_toArray, List.set_cons_zero, List.set_cons_succ, i64_w, i32_w]
    rfl
  refine take_ (i := 27) (N := some 175) (v := ?_) (a' := ?_) #[true, true, true, true, true, true, true, true, true, true, true, true, true, true, true, true, true, true, true, true, true, true, true, true, true, true, true, true, false, false, false, false, false, false, false, false, false, false, false, false, false, false, false, false, false, false, false, false, false, false] rfl rfl (take_ofW HT_.out HW_.out (by kernel_rfl)) (fun _ _ _ h => h) (Or.inl ⟨by rfl, ?_⟩) hHeld ?_ ?_
  rotate_left
  · rintro w' s
    clear s
    go_simp
    with_reducible rfl
  rotate_left
  · simp only [Act.put, List.setIfInBounds_toArray, List.set_cons_zero, List.set_cons_succ, i64_w, i32_w]
    rfl
  refine take_ (i := 28) (N := some 176) (v := ?_) (a' := ?_) #[true, true, true, true, true, true, true, true, true, true, true, true, true, true, true, true, true, true, true, true, true, true, true, true, true, true, true, true, true, false, false, false, false, false, false, false, false, false, false, false, false, false, false, false, false, false, false, false, false, false] rfl rfl (take_ofW HT_.out HW_.out (by kernel_rfl)) (fun _ _ _ h => h) (Or.inl ⟨by rfl, ?_⟩) hHeld ?_ ?_
  rotate_left
  · rintro w' s
    clear s
    go_simp
    with_reducible rfl
  rotate_left
  · simp only [Act.put, List.setIfInBounds_toArray, List.set_cons_zero, List.set_cons_succ, i64_w, i32_w]
    rfl
  refine take_ (i := 29) (N := some 177) (v := ?_) (a' := ?_) #[true, true, true, true, true, true, true, true, true, true, true, true, true, true, true, true, true, true, true, true, true, true, true, true, true, true, true, true, true, true, false, false, false, false, false, false, false, false, false, false, false, false, false, false, false, false, false, false, false, false] rfl rfl (take_ofW HT_.out HW_.out (by kernel_rfl)) (fun _ _ _ h => h) (Or.inl ⟨by rfl, ?_⟩) hHeld ?_ ?_
  rotate_left
  · rintro w' s
    clear s
    go_simp
    with_reducible rfl
  rotate_left
  · simp only [Act.put, List.setIfInBounds_toArray, List.set_cons_zero, List.set_cons_succ, i64_w, i32_w]
    rfl
  refine take_ (i := 30) (N := some 178) (v := ?_) (a' := ?_) #[true, true, true, true, true, true, true, true, true, true, true, true, true, true, true, true, true, true, true, true, true, true, true, true, true, true, true, true, true, true, true, false, false, false, false, false, false, false, false, false, false, false, false, false, false, false, false, false, false, false] rfl rfl (take_ofW HT_.out HW_.out (by kernel_rfl)) (fun _ _ _ h => h) (Or.inl ⟨by rfl, ?_⟩) hHeld ?_ ?_
  rotate_left
  · rintro w' s
    have c0 := (blk_cell s.k17 0).trans (rfl : _ = some (Value.int .i64 1))
    have c1 := (blk_cell s.k17 1).trans (rfl : _ = some (Value.int .i64 1))
    clear s
    go_simp
    with_reducible rfl
  rotate_left
  · simp only [Act.put, List.setIfInBounds_toArray, List.set_cons_zero, List.set_cons_succ, i64_w, i32_w]
    rfl
  refine one_ (i := 31) (N := some 179) #[true, true, true, true, true, true, true, true, true, true, true, true, true, true, true, true, true, true, true, true, true, true, true, true, true, true, true, true, true, true, true, true, false, false, false, false, false, false, false, false, false, false, false, false, false, false, false, false, false, false] rfl rfl (one_of HT_.out (by kernel_rfl)) (by decide) (fun K hK => ?_)
  refine goes_ Try.func38 (by kernel_rfl) rfl #[.int .i64 1, .int .i64 1] (by rfl) rfl rfl (by (try simp only [List.map_toArray, List.map_cons, List.map_nil]); first | done | rfl) ?_
  refine (pianolalaw10_part.calls 1 1 1 1 _ rfl).mono ?_
  rintro e wp4 ⟨rfl, hb⟩
  refine ⟨_, rfl, ?_⟩
  have hk2 := hHeld.below hb
  have HB' := Aside0.mk (below_then HB.out HB.out.size hb); clear HB; have HB := HB'; clear HB'
  have HCv' := Aside0.mk (Kd.C_below HCv.out hb); clear HCv; have HCv := HCv'; clear HCv'
  clear hb
  refine hK.out _ _ hk2 (fun hHeld => ?_)
  clear hK K hk2
  refine norm_ (a' := ?_) ?_ ?_
  rotate_left
  · show Act.put _ (some 179) _ = _
    simp only [Act.put, List.setIfInBounds_toArray, List.set_cons_zero, List.set_cons_succ, i64_w, i32_w]
    rfl
  refine take_ (i := 32) (N := some 180) (v := ?_) (a' := ?_) #[true, true, true, true, true, true, true, true, true, true, true, true, true, true, true, true, true, true, true, true, true, true, true, true, true, true, true, true, true, true, true, true, true, false, false, false, false, false, false, false, false, false, false, false, false, false, false, false, false, false] rfl rfl (take_ofW HT_.out HW_.out (by kernel_rfl)) (fun _ _ _ h => h) (Or.inl ⟨by rfl, ?_⟩) hHeld ?_ ?_
  rotate_left
  · rintro w' s
    clear s
    go_simp
    with_reducible rfl
  rotate_left
  · simp only [Act.put, List.setIfInBounds_toArray, List.set_cons_zero, List.set_cons_succ, i64_w, i32_w]
    rfl
  refine take_ (i := 33) (N := some 181) (v := ?_) (a' := ?_) #[true, true, true, true, true, true, true, true, true, true, true, true, true, true, true, true, true, true, true, true, true, true, true, true, true, true, true, true, true, true, true, true, true, true, false, false, false, false, false, false, false, false, false, false, false, false, false, false, false, false] rfl rfl (take_ofW HT_.out HW_.out (by kernel_rfl)) (fun _ _ _ h => h) (Or.inl ⟨by rfl, ?_⟩) hHeld ?_ ?_
  rotate_left
  · rintro w' s
    clear s
    go_simp
    with_reducible rfl
  rotate_left
  · simp only [Act.put, List.setIfInBounds_toArray, List.set_cons_zero, List.set_cons_succ, i64_w, i32_w]
    rfl
  refine take_ (i := 34) (N := some 182) (v := ?_) (a' := ?_) #[true, true, true, true, true, true, true, true, true, true, true, true, true, true, true, true, true, true, true, true, true, true, true, true, true, true, true, true, true, true, true, true, true, true, true, false, false, false, false, false, false, false, false, false, false, false, false, false, false, false] rfl rfl (take_ofW HT_.out HW_.out (by kernel_rfl)) (fun _ _ _ h => h) (Or.inl ⟨by rfl, ?_⟩) hHeld ?_ ?_
  rotate_left
  · rintro w' s
    clear s
    go_simp
    with_reducible rfl
  rotate_left
  · simp only [Act.put, List.setIfInBounds_toArray, List.set_cons_zero, List.set_cons_succ, i64_w, i32_w]
    rfl
  refine take_ (i := 35) (N := some 183) (v := ?_) (a' := ?_) #[true, true, true, true, true, true, true, true, true, true, true, true, true, true, true, true, true, true, true, true, true, true, true, true, true, true, true, true, true, true, true, true, true, true, true, true, false, false, false, false, false, false, false, false, false, false, false, false, false, false] rfl rfl (take_ofW HT_.out HW_.out (by kernel_rfl)) (fun _ _ _ h => h) (Or.inl ⟨by rfl, ?_⟩) hHeld ?_ ?_
  rotate_left
  · rintro w' s
    have c0 := (blk_cell s.k19 0).trans (rfl : _ = some (Value.int .i64 0))
    have c1 := (blk_cell s.k19 1).trans (rfl : _ = some (Value.int .i64 2))
    clear s
    go_simp
    with_reducible rfl
  rotate_left
  · simp only [Act.put, List.setIfInBounds_toArray, List.set_cons_zero, List.set_cons_succ, i64_w, i32_w]
    rfl
  refine take_ (i := 36) (N := some 184) (v := ?_) (a' := ?_) #[true, true, true, true, true, true, true, true, true, true, true, true, true, true, true, true, true, true, true, true, true, true, true, true, true, true, true, true, true, true, true, true, true, true, true, true, true, false, false, false, false, false, false, false, false, false, false, false, false, false] rfl rfl (take_ofW HT_.out HW_.out (by kernel_rfl)) (fun _ _ _ h => h) (Or.inl ⟨by rfl, ?_⟩) hHeld ?_ ?_
  rotate_left
  · rintro w' s
    clear s
    go_simp
    with_reducible rfl
  rotate_left
  · simp only [Act.put, List.setIfInBounds_toArray, List.set_cons_zero, List.set_cons_succ, i64_w, i32_w]
    rfl
  refine take_ (i := 37) (N := some 185) (v := ?_) (a' := ?_) #[true, true, true, true, true, true, true, true, true, true, true, true, true, true, true, true, true, true, true, true, true, true, true, true, true, true, true, true, true, true, true, true, true, true, true, true, true, true, false, false, false, false, false, false, false, false, false, false, false, false] rfl rfl (take_ofW HT_.out HW_.out (by kernel_rfl)) (fun _ _ _ h => h) (Or.inl ⟨by rfl, ?_⟩) hHeld ?_ ?_
  rotate_left
  · rintro w' s
    clear s
    go_simp
    with_reducible rfl
  rotate_left
  · simp only [Act.put, List.setIfInBounds_toArray, List.set_cons_zero, List.set_cons_succ, i64_w, i32_w]
    rfl
  refine take_ (i := 38) (N := some 186) (v := ?_) (a' := ?_) #[true, true, true, true, true, true, true, true, true, true, true, true, true, true, true, true, true, true, true, true, true, true, true, true, true, true, true, true, true, true, true, true, true, true, true, true, true, true, true, false, false, false, false, false, false, false, false, false, false, false] rfl rfl (take_ofW HT_.out HW_.out (by kernel_rfl)) (fun _ _ _ h => h) (Or.inl ⟨by rfl, ?_⟩) hHeld ?_ ?_
  rotate_left
  · rintro w' s
    clear s
    go_simp
    with_reducible rfl
  rotate_left
  · simp only [Act.put, List.setIfInBounds_toArray, List.set_cons_zero, List.set_cons_succ, i64_w, i32_w]
    rfl
  refine take_ (i := 39) (N := some 187) (v := ?_) (a' := ?_) #[true, true, true, true, true, true, true, true, true, true, true, true, true, true, true, true, true, true, true, true, true, true, true, true, true, true, true, true, true, true, true, true, true, true, true, true, true, true, true, true, false, false, false, false, false, false, false, false, false, false] rfl rfl (take_ofW HT_.out HW_.out (by kernel_rfl)) (fun _ _ _ h => h) (Or.inl ⟨by rfl, ?_⟩) hHeld ?_ ?_
  rotate_left
  · rintro w' s
    clear s
    go_simp
    with_reducible rfl
  rotate_left
  · simp only [Act.put, List.setIfInBounds_toArray, List.set_cons_zero, List.set_cons_succ, i64_w, i32_w]
    rfl
  refine take_ (i := 40) (N := some 188) (v := ?_) (a' := ?_) #[true, true, true, true, true, true, true, true, true, true, true, true, true, true, true, true, true, true, true, true, true, true, true, true, true, true, true, true, true, true, true, true, true, true, true, true, true, true, true, true, true, false, false, false, false, false, false, false, false, false] rfl rfl (take_ofW HT_.out HW_.out (by kernel_rfl)) (fun _ _ _ h => h) (Or.inl ⟨by rfl, ?_⟩) hHeld ?_ ?_
  rotate_left
  · rintro w' s
    clear s
    go_simp
    with_reducible rfl
  rotate_left
  · simp only [Act.put, List.setIfInBounds_toArray, List.set_cons_zero, List.set_cons_succ, i64_w, i32_w]
    rfl
  have HKW := Aside0.mk hHeld
  refine one_ (i := 41) (N := some 189) #[true, true, true, true, true, true, true, true, true, true, true, true, true, true, true, true, true, true, true, true, true, true, true, true, true, true, true, true, true, true, true, true, true, true, true, true, true, true, true, true, true, true, false, false, false, false, false, false, false, false] rfl rfl (one_of HT_.out (by kernel_rfl)) (by decide) (fun K hK => ?_)
  refine value_ (v := .slice (some ⟨wp4.heap.size, 0, none⟩) 2 2) (w1 := wp4.alloc (.cells #[.int .i64 1, .int .i64 1] 3)) (by rfl) rfl (by go_simp) ?_
  have hk2 := hHeld.below (below_alloc (Below.refl _ _) (.cells #[.int .i64 1, .int .i64 1] 3))
  refine hK.out _ _ hk2 (fun hHeld => ?_)
  clear hK K hk2
  refine norm_ (a' := ?_) ?_ ?_
  rotate_left
  · show Act.put _ (some 189) _ = _
    simp only [Act.put, List.setIfInBounds_toArray, List.set_cons_zero, List.set_cons_succ, i64_w, i32_w]
    rfl
  refine one_ (i := 42) (N := some 190) #[true, true, true, true, true, true, true, true, true, true, true, true, true, true, true, true, true, true, true, true, true, true, true, true, true, true, true, true, true, true, true, true, true, true, true, true, true, true, true, true, true, true, true, false, false, false, false, false, false, false] rfl rfl (one_of HT_.out (by kernel_rfl)) (by decide) (fun K hK => ?_)
  refine goes_ Try.func40 (by kernel_rfl) rfl #[.slice (some ⟨wp4.heap.size, 0, none⟩) 2 2] (by rfl) rfl rfl (by (try simp only [List.map_toArray, List.map_cons, List.map_nil]); first | done | rfl) ?_
  refine (lit_calls wp4 _ [1, 1] rfl (by decide)).mono ?_
  rintro e wp5 ⟨gb, rfl, hC, hb⟩
  refine ⟨_, rfl, ?_⟩
  have HCb := Aside0.mk hC; clear hC
  have hk2 : WK _ _ _ _ _ wp5 := HKW.out.below hb
  have HB' := Aside0.mk (below_then HB.out HB.out.size hb); clear HB; have HB := HB'; clear HB'
  have HCv' := Aside0.mk (Kd.C_below HCv.out hb); clear HCv; have HCv := HCv'; clear HCv'
  clear hb
  refine hK.out _ _ hk2 (fun hHeld => ?_)
  clear hK K hk2
  refine norm_ (a' := ?_) ?_ ?_
  rotate_left
  · show Act.put _ (some 190) _ = _
    simp only [Act.put, List.setIfInBounds_toArray, List.set_cons_zero, List.set_cons_succ, i64_w, i32_w]
    rfl
  refine one_ (i := 43) (N := some 191) #[true, true, true, true, true, true, true, true, true, true, true, true, true, true, true, true, true, true, true, true, true, true, true, true, true, true, true, true, true, true, true, true, true, true, true, true, true, true, true, true, true, true, true, true, false, false, false, false, false, false] rfl rfl (one_of HT_.out (by kernel_rfl)) (by decide) (fun K hK => ?_)
  refine goes_ Try.func19 (by kernel_rfl) rfl #[.slice Av 2 cv, .slice (some ⟨gb, 0, none⟩) 2 2] (by rfl) rfl rfl (by (try simp only [List.map_toArray, List.map_cons, List.map_nil]); first | done | rfl) ?_
  refine (pianolalaw10_numbers.calls 20 Av cv [1, 1] _ 2 [1, 1] true _ HCv.out hcv HCb.out (Nat.le_refl _) (by decide +kernel)).mono ?_
  rintro e wp6 ⟨rfl, hd⟩
  refine ⟨_, rfl, ?_⟩
  have hb := hd.below
  clear hd
  have hk2 := hHeld.below hb
  have HB' := Aside0.mk (below_then HB.out HB.out.size hb); clear HB; have HB := HB'; clear HB'
  have HCv' := Aside0.mk (Kd.C_below HCv.out hb); clear HCv; have HCv := HCv'; clear HCv'
  clear hb
  refine hK.out _ _ hk2 (fun hHeld => ?_)
  clear hK K hk2
  refine norm_ (a' := ?_) ?_ ?_
  rotate_left
  · show Act.put _ (some 191) _ = _
    simp only [Act.put, List.setIfInBounds_toArray, List.set_cons_zero, List.set_cons_succ, i64_w, i32_w]
    rfl
  refine take_ (i := 44) (N := some 192) (v := ?_) (a' := ?_) #[true, true, true, true, true, true, true, true, true, true, true, true, true, true, true, true, true, true, true, true, true, true, true, true, true, true, true, true, true, true, true, true, true, true, true, true, true, true, true, true, true, true, true, true, true, false, false, false, false, false] rfl rfl (take_ofW HT_.out HW_.out (by kernel_rfl)) (fun _ _ _ h => h) (Or.inl ⟨by rfl, ?_⟩) hHeld ?_ ?_
  rotate_left
  · rintro w' s
    clear s
    go_simp
    with_reducible rfl
  rotate_left
  · simp only [Act.put, List.setIfInBounds_toArray, List.set_cons_zero, List.set_cons_succ, i64_w, i32_w]
    rfl
  refine take_ (i := 45) (N := some 193) (v := ?_) (a' := ?_) #[true, true, true, true, true, true, true, true, true, true, true, true, true, true, true, true, true, true, true, true, true, true, true, true, true, true, true, true, true, true, true, true, true, true, true, true, true, true, true, true, true, true, true, true, true, true, false, false, false, false] rfl rfl (take_ofW HT_.out HW_.out (by kernel_rfl)) (fun _ _ _ h => h) (Or.inl ⟨by rfl, ?_⟩) hHeld ?_ ?_
  rotate_left
  · rintro w' s
    clear s
    go_simp
    with_reducible rfl
  rotate_left
  · simp only [Act.put, List.setIfInBounds_toArray, List.set_cons_zero, List.set_cons_succ, i64_w, i32_w]
    rfl
  refine take_ (i := 46) (N := some 194) (v := ?_) (a' := ?_) #[true, true, true, true, true, true, true, true, true, true, true, true, true, true, true, true, true, true, true, true, true, true, true, true, true, true, true, true, true, true, true, true, true, true, true, true, true, true, true, true, true, true, true, true, true, true, true, false, false, false] rfl rfl (take_ofW HT_.out HW_.out (by kernel_rfl)) (fun _ _ _ h => h) (Or.inl ⟨by rfl, ?_⟩) hHeld ?_ ?_
  rotate_left
  · rintro w' s
    clear s
    go_simp
    with_reducible rfl
  rotate_left
  · simp only [Act.put, List.setIfInBounds_toArray, List.set_cons_zero, List.set_cons_succ, i64_w, i32_w]
    rfl
  refine take_ (i := 47) (N := some 195) (v := ?_) (a' := ?_) #[true, true, true, true, true, true, true, true, true, true, true, true, true, true, true, true, true, true, true, true, true, true, true, true, true, true, true, true, true, true, true, true, true, true, true, true, true, true, true, true, true, true, true, true, true, true, true, true, false, false] rfl rfl (take_ofW HT_.out HW_.out (by kernel_rfl)) (fun _ _ _ h => h) (Or.inl ⟨by rfl, ?_⟩) hHeld ?_ ?_
  rotate_left
  · rintro w' s
    clear s
    go_simp
    with_reducible rfl
  rotate_left
  · simp only [Act.put, List.setIfInBounds_toArray, List.set_cons_zero, List.set_cons_succ, i64_w, i32_w]
    rfl
  refine take_ (i := 48) (N := some 196) (v := ?_) (a' := ?_) #[true, true, true, true, true, true, true, true, true, true, true, true, true, true, true, true, true, true, true, true, true, true, true, true, true, true, true, true, true, true, true, true, true, true, true, true, true, true, true, true, true, true, true, true, true, true, true, true, true, false] rfl rfl (take_ofW HT_.out HW_.out (by kernel_rfl)) (fun _ _ _ h => h) (Or.inl ⟨by rfl, ?_⟩) hHeld ?_ ?_
  rotate_left
  · rintro w' s
    clear s
    go_simp
    with_reducible rfl
  rotate_left
  · simp only [Act.put, List.setIfInBounds_toArray, List.set_cons_zero, List.set_cons_succ, i64_w, i32_w]
    rfl
  refine take_ (i := 49) (N := some 0) (v := ?_) (a' := ?_) #[true, true, true, true, true, true, true, true, true, true, true, true, true, true, true, true, true, true, true, true, true, true, true, true, true, true, true, true, true, true, true, true, true, true, true, true, true, true, true, true, true, true, true, true, true, true, true, true, true, true] rfl rfl (take_ofW HT_.out HW_.out (by kernel_rfl)) (fun _ _ _ h => h) (Or.inl ⟨by rfl, ?_⟩) hHeld ?_ ?_
  rotate_left
  · rintro w' s
    clear s
    go_simp
    with_reducible rfl
  rotate_left
  · simp only [Act.put, List.setIfInBounds_toArray, List.set_cons_zero, List.set_cons_succ, i64_w, i32_w]
    rfl
  refine done_ (done_of HT_.out (by kernel_rfl)) ?_
  clear HT_ HW_ hHeld HCv HCb
  go_wp2
  go_ret
  exact ⟨rfl, HB.out⟩

end Go.Proofs.Ythddeillkdediaa.H
