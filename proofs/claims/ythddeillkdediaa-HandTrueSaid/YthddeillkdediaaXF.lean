/- Texts HD, P3, HE, P4, HF of this chapter, one behind the other. -/
import Derived.Carry
import Derived.LoopIn
import Derived.LoopNIn
import Derived.Maps.AppendAt
import Derived.OwnWalkIn
import Derived.RangeFuncBound
import Derived.RangeFuncBox
import Derived.RangeFuncCalls
import Derived.RangeFuncLeaves
import Derived.RangeFuncNested
import Derived.RangeFuncWrites
import Derived.Shelf.Abstract
import Derived.Shelf.RegionOpen
import Derived.TacticsInMore
import Derived.WalkKit
import Derived.Test.YthddeillkdediaaXE

/- hand.chance. -/
namespace Go.Proofs.Ythddeillkdediaa.H
open Go.RowKit Go.Proofs.YthddeillkdediaaW.PrintWords Go.Proofs.YthddeillkdediaaW.PrintLast Go.Proofs.YthddeillkdediaaW.PrintMore
open Go.Shelf Go.Proofs.Ythddeillkdediaa.QA
set_option linter.unusedVariables false
set_option linter.unusedSimpArgs false

def ch80_T : Bool × List (List Nat × List Nat) := (true, [([], []), ([], []), ([0, 1], [0, 1]), ([], []), ([], []), ([3, 4, 2], [3, 4]), ([2, 5], [2, 5]), ([6, 5, 0, 1, 2, 3, 4, 5, 6], [6])])
def ch80_B : List Nat := [0, 0, 3, 0, 0, 31, 63, 127]
theorem ch80_tab : rtab .any (opsOf Try.f80 1) = ch80_T := by kernel_rfl
theorem ch80_bits : waitsOk ch80_T.2 ch80_B = true := by kernel_rfl
def ch4_T : Bool × List (List Nat × List Nat) := (true, [([], []), ([], []), ([], []), ([1, 2], [1, 2]), ([0, 0, 1], [0, 1]), ([3, 4, 0, 1, 2, 3, 4], [0, 2, 3])])
def ch4_B : List Nat := [0, 0, 0, 6, 3, 31]
theorem ch4_tab : rtab .any (opsOf Try.f54 4) = ch4_T := by kernel_rfl
theorem ch4_bits : waitsOk ch4_T.2 ch4_B = true := by kernel_rfl
def ch5_T : Bool × List (List Nat × List Nat) := (true, [([], []), ([], []), ([0, 1], [0, 1]), ([], []), ([], []), ([3, 4], [3, 4]), ([2, 5], [2, 5]), ([6, 0, 1, 2, 3, 4, 5, 6], [6])])
def ch5_B : List Nat := [0, 0, 3, 0, 0, 24, 63, 127]
theorem ch5_tab : rtab .any (opsOf Try.f54 5) = ch5_T := by kernel_rfl
theorem ch5_bits : waitsOk ch5_T.2 ch5_B = true := by kernel_rfl
def farI (a b : Int) : Int := mx (a - b) (b - a)
theorem far_calls (a b : Int) (w : World) (ha : -100000000 ≤ a ∧ a ≤ 100000000) (hb : -100000000 ≤ b ∧ b ≤ 100000000) : Calls Try.prog 57 #[.int .i64 a, .int .i64 b] w fun e w' => e = .returned (.int .i64 (farI a b)) ∧ Below w.heap.size w w' :=
 hand_far.calls a b _ w (by unfold hand_far.f farI; rw [w64' _ (by omega) (by omega), w64' _ (by omega) (by omega)])
set_option maxRecDepth 100000 in
/-- hand.chance$1 -/
theorem chance1 (Bm Bo : Nat) (m own : Int) (D : Int → Prop) (hD : ∀ x, D x → -1000000 ≤ x ∧ x ≤ 1000000) (w : World) (hm : w.heap[Bm]? = some (.cells #[.int .i64 m] 3 (0, 0))) (ho : w.heap[Bo]? = some (.cells #[.int .i64 own] 3 (0, 0))) (h1 : -1000000 ≤ m ∧ m ≤ 1000000) (h2 : -1000000 ≤ own ∧ own ≤ 1000000) :
  Pred 80 #[.pointer (some ⟨Bm, 0, none⟩), .pointer (some ⟨Bo, 0, none⟩)] (Value.int .i64) D (fun x => decide (farI own m ≤ farI x m)) w := by
 intro W x hx hb
 have hx' := hD x hx
 have KK := Aside0.mk (And.intro (show W.drew.cell? ⟨Bm, 0, none⟩ = some (.int .i64 m) from (blk_cell (blk_below2 hb hm) 0).trans rfl) (show W.drew.cell? ⟨Bo, 0, none⟩ = some (.int .i64 own) from (blk_cell (blk_below2 hb ho) 0).trans rfl))
 clear hm ho hb hx
 show Calls Try.prog 80 #[.int .i64 x, .pointer (some ⟨Bm, 0, none⟩), .pointer (some ⟨Bo, 0, none⟩)] W _
 go_enter Try.func80, Try.ntmps80
 go_wp2
 refine start_ (n := 8) (S := fun w' => w'.cell? ⟨Bm, 0, none⟩ = some (.int .i64 m) ∧ w'.cell? ⟨Bo, 0, none⟩ = some (.int .i64 own)) (ds := []) #[false, false, false, false, false, false, false, false] (by kernel_rfl) rfl rfl KK.out (fun hHeld => ?_)
 refine with_tabW ch80_tab ch80_bits (fun HT_ HW_ => ?_)
 refine take_ (i := 0) (N := some 5) (v := ?_) (a' := ?_) #[true, false, false, false, false, false, false, false] rfl rfl (take_ofW HT_.out HW_.out (by kernel_rfl)) (fun _ _ _ h => h) (Or.inl ⟨by rfl, ?_⟩) hHeld ?_ ?_
 rotate_left
 · rintro w' ⟨s0, s1⟩
   go_simp
   with_reducible rfl
 rotate_left
 · simp only [Act.put, List.setIfInBounds_toArray, List.set_cons_zero, List.set_cons_succ, i64_w, i32_w]
   rfl
 refine take_ (i := 1) (N := some 6) (v := ?_) (a' := ?_) #[true, true, false, false, false, false, false, false] rfl rfl (take_ofW HT_.out HW_.out (by kernel_rfl)) (fun _ _ _ h => h) (Or.inl ⟨by rfl, ?_⟩) hHeld ?_ ?_
 rotate_left
 · rintro w' ⟨s0, s1⟩
   go_simp
   with_reducible rfl
 rotate_left
 · simp only [Act.put, List.setIfInBounds_toArray, List.set_cons_zero, List.set_cons_succ, i64_w, i32_w]
   rfl
 refine take_ (i := 3) (N := some 8) (v := ?_) (a' := ?_) #[true, true, false, true, false, false, false, false] rfl rfl (take_ofW HT_.out HW_.out (by kernel_rfl)) (fun _ _ _ h => h) (Or.inl ⟨by rfl, ?_⟩) hHeld ?_ ?_
 rotate_left
 · rintro w' ⟨s0, s1⟩
   go_simp
   with_reducible rfl
 rotate_left
 · simp only [Act.put, List.setIfInBounds_toArray, List.set_cons_zero, List.set_cons_succ, i64_w, i32_w]
   rfl
 refine take_ (i := 4) (N := some 9) (v := ?_) (a' := ?_) #[true, true, false, true, true, false, false, false] rfl rfl (take_ofW HT_.out HW_.out (by kernel_rfl)) (fun _ _ _ h => h) (Or.inl ⟨by rfl, ?_⟩) hHeld ?_ ?_
 rotate_left
 · rintro w' ⟨s0, s1⟩
   go_simp
   with_reducible rfl
 rotate_left
 · simp only [Act.put, List.setIfInBounds_toArray, List.set_cons_zero, List.set_cons_succ, i64_w, i32_w]
   rfl
 refine one_ (i := 2) (N := some 7) #[true, true, true, true, true, false, false, false] rfl rfl (one_of HT_.out (by kernel_rfl)) (by decide) (fun K hK => ?_)
 refine goes_ Try.func57 (by kernel_rfl) rfl #[.int .i64 x, .int .i64 m] (by rfl) rfl rfl (by (try simp only [List.map_toArray, List.map_cons, List.map_nil]); first | done | rfl) ?_
 refine (far_calls x m W.drew (by omega) (by omega)).mono ?_
 rintro e w1 ⟨rfl, hbb⟩
 refine ⟨_, rfl, ?_⟩
 replace KK := Aside0.mk (And.intro (pw_cell_below hbb KK.out.1) (pw_cell_below hbb KK.out.2))
 have HBB := Aside0.mk ((pw_below_drewN (Below.refl W.heap.size W) 1 : Below W.heap.size W W.drew).trans hbb)
 clear hbb
 refine hK.out _ _ KK.out (fun hHeld => ?_)
 clear hK K
 refine norm_ (a' := ?_) ?_ ?_
 rotate_left
 · show Act.put _ (some 7) _ = _
   simp only [Act.put, List.setIfInBounds_toArray, List.set_cons_zero, List.set_cons_succ, i64_w, i32_w]
   rfl
 refine one_ (i := 5) (N := some 10) #[true, true, true, true, true, true, false, false] rfl rfl (one_of HT_.out (by kernel_rfl)) (by decide) (fun K hK => ?_)
 refine goes_ Try.func57 (by kernel_rfl) rfl #[.int .i64 own, .int .i64 m] (by rfl) rfl rfl (by (try simp only [List.map_toArray, List.map_cons, List.map_nil]); first | done | rfl) ?_
 refine (far_calls own m w1 (by omega) (by omega)).mono ?_
 rintro e w2 ⟨rfl, hbb⟩
 refine ⟨_, rfl, ?_⟩
 replace KK := Aside0.mk (And.intro (pw_cell_below hbb KK.out.1) (pw_cell_below hbb KK.out.2))
 replace HBB := Aside0.mk (below_then HBB.out HBB.out.size hbb)
 clear hbb
 refine hK.out _ _ KK.out (fun hHeld => ?_)
 clear hK K
 refine norm_ (a' := ?_) ?_ ?_
 rotate_left
 · show Act.put _ (some 10) _ = _
   simp only [Act.put, List.setIfInBounds_toArray, List.set_cons_zero, List.set_cons_succ, i64_w, i32_w]
   rfl
 refine take_ (i := 6) (N := some 11) (v := ?_) (a' := ?_) #[true, true, true, true, true, true, true, false] rfl rfl (take_ofW HT_.out HW_.out (by kernel_rfl)) (fun _ _ _ h => h) (Or.inl ⟨by rfl, ?_⟩) hHeld ?_ ?_
 rotate_left
 · rintro w' ⟨s0, s1⟩
   go_simp
   with_reducible rfl
 rotate_left
 · simp only [Act.put, List.setIfInBounds_toArray, List.set_cons_zero, List.set_cons_succ, i64_w, i32_w]
   rfl
 refine take_ (i := 7) (N := some 4) (v := ?_) (a' := ?_) #[true, true, true, true, true, true, true, true] rfl rfl (take_ofW HT_.out HW_.out (by kernel_rfl)) (fun _ _ _ h => h) (Or.inl ⟨by rfl, ?_⟩) hHeld ?_ ?_
 rotate_left
 · rintro w' ⟨s0, s1⟩
   go_simp
   with_reducible rfl
 rotate_left
 · simp only [Act.put, List.setIfInBounds_toArray, List.set_cons_zero, List.set_cons_succ, i64_w, i32_w]
   rfl
 refine done_ (done_of HT_.out (by kernel_rfl)) ?_
 go_wp2
 go_ret
 exact ⟨by first | rfl | simp, HBB.out⟩
/-- A fraction in lowest terms. -/
def lowI (s n : Nat) : Int × Int := (((s / Nat.gcd s n : Nat) : Int), ((n / Nat.gcd s n : Nat) : Int))
set_option maxHeartbeats 4000000 in
set_option maxRecDepth 100000 in
/-- hand.chance -/
theorem chance_calls (X : KeyX Int) (hXt : X.t = 3) (hXe : ∀ k, X.enc k = .int .i64 k) (hXo : ∀ k, X.ok k → -1000000 ≤ k ∧ k ≤ 1000000) (b n : Nat) (f : Int → Int) (m own : Int) (U : List Int) (s t : Nat) (w : World)
  (hM : MapF X w b n f) (hn : U.Nodup) (hs : ∀ k, f k ≠ 0 → k ∈ U) (hok : ∀ k, f k ≠ 0 → X.ok k) (hf : ∀ k, 0 ≤ f k) (hT : sumI (U.map f) = (t : Int)) (hS : sumI (U.map (keep (fun x => decide (farI own m ≤ farI x m)) f)) = (s : Int)) (htp : 0 < t) (hle : t ≤ 4611686018427387904) (h1 : -1000000 ≤ m ∧ m ≤ 1000000) (h2 : -1000000 ≤ own ∧ own ≤ 1000000) :
  Calls Try.prog 54 #[.map (some b), .int .i64 m, .int .i64 own] w fun e w' => e = .returned (.agg #[.int .i64 (lowI s t).1, .int .i64 (lowI s t).2]) ∧ Below w.heap.size w w' := by
 have hu34 := Try.underlying34
 have hb0 := below_alloc (below_alloc (below_alloc (Below.refl w.heap.size w) (.cells #[.int .i64 m] 3)) (.cells #[.int .i64 own] 3)) (.cells #[.int .i64 0, .int .i64 0] 34)
 have hsle : s ≤ t := by
  have := keep_le (U := U) (fun x => decide (farI own m ≤ farI x m)) hf
  omega
 have e1 : (w.alloc (.cells #[.int .i64 m] 3)).heap.size = w.heap.size + 1 := by simp
 have e2 : ((w.alloc (.cells #[.int .i64 m] 3)).alloc (.cells #[.int .i64 own] 3)).heap.size = w.heap.size + 1 + 1 := by simp
 have p1 := blk_new (w.alloc (.cells #[.int .i64 m] 3)) (.cells #[.int .i64 own] 3)
 have p2 := blk_new ((w.alloc (.cells #[.int .i64 m] 3)).alloc (.cells #[.int .i64 own] 3)) (.cells #[.int .i64 0, .int .i64 0] 34)
 rw [e1] at p1
 rw [e2] at p2
 have c0 := blk_alloc (blk_alloc (blk_new w (.cells #[.int .i64 m] 3)) (.cells #[.int .i64 own] 3)) (.cells #[.int .i64 0, .int .i64 0] 34)
 have c1 := blk_alloc p1 (.cells #[.int .i64 0, .int .i64 0] 34)
 clear p1 e1 e2
 have hpart := fun W (hb : Below w.heap.size w W) (hm : W.heap[w.heap.size]? = some (.cells #[.int .i64 m] 3 (0, 0))) (ho : W.heap[w.heap.size + 1]? = some (.cells #[.int .i64 own] 3 (0, 0))) => part_calls X hXt hXe b n f (fun x => decide (farI own m ≤ farI x m)) 80 #[.pointer (some ⟨w.heap.size, 0, none⟩), .pointer (some ⟨w.heap.size + 1, 0, none⟩)] (enters_of Try.func80 (by kernel_rfl) rfl) U W (hM.below hb) hn hs hok hf (by omega) (chance1 w.heap.size (w.heap.size + 1) m own X.ok hXo W hm ho h1 h2)
 rw [hT, hS] at hpart
 have hp0 := hpart _ hb0 c0 c1
 have BK0 := Aside0.mk p2
 have HB0 := Aside0.mk hb0
 have HST := Aside0.mk (And.intro htp (And.intro hle hsle))
 clear hpart hb0 c0 c1 p2 hT hS hM hn hs hok hf h1 h2 htp hle hsle
 go_enter Try.func54, Try.ntmps54
 go_wp2_with fail
 refine hp0.mono ?_
 clear hp0
 rintro e w1 ⟨rfl, hb⟩
 have BK1 := Aside0.mk (blk_below2 hb BK0.out)
 have HB1 := Aside0.mk (below_then HB0.out HB0.out.size hb)
 clear hb BK0 HB0
 obtain ⟨Br, hBr⟩ : ∃ Br, Br = w.heap.size + 1 + 1 := ⟨_, rfl⟩
 have HBr := Aside0.mk (show w.heap.size ≤ Br by omega)
 rw [← hBr] at BK1 ⊢
 clear hBr
 go_wp2
 go_loopw [9, 10] (fun s9 s10 wr => ∃ x y : Nat, s9 = .int .i64 x ∧ s10 = .int .i64 y ∧ Aside0 (Nat.gcd x y = Nat.gcd s t ∧ x ≤ 4611686018427387904 ∧ y ≤ 4611686018427387904) ∧ Aside0 (wr.heap[Br]? = some (.cells #[.int .i64 0, .int .i64 0] 34 (0, 0))) ∧ Aside0 (Below w.heap.size w wr)) (fun _ s10 _ => (intOf s10).toNat)
 case atStart => exact ⟨s, t, rfl, rfl, ⟨by have := HST.out; omega⟩, BK1, HB1⟩
 case round =>
  clear BK1 HB1
  obtain ⟨x, y, rfl, rfl, HG, BK, HBW⟩ := hrel
  rename World => wr
  by_cases hy : 0 < y
  · have d1 : decide ((0 : Int) < (y : Int)) = true := decide_eq_true (by omega)
    have d2 : decide ((y : Int) > 0) = true := decide_eq_true (by omega)
    have z1 : ((y : Int) == 0) = false := beq_false_of_ne (by omega)
    have z2 : ¬ (y : Int) = 0 := by omega
    have z3 : ¬ y = 0 := by omega
    have etm : (x : Int).tmod (y : Int) = ((x % y : Nat) : Int) := rfl
    have HG1 := Aside0.mk (show Nat.gcd y (x % y) = Nat.gcd s t ∧ y ≤ 4611686018427387904 ∧ x % y ≤ 4611686018427387904 by
     refine ⟨?_, HG.out.2.2, ?_⟩
     · rw [← HG.out.1, Nat.gcd_comm x y, Nat.gcd_rec y x, Nat.gcd_comm]
     · have := Nat.mod_lt x hy
       have := HG.out.2.2
       omega)
    have HLT := Aside0.mk (Nat.mod_lt x hy)
    go_wp2
    have n0_ := Aside0.mk (blk_drew BK.out)
    have n1_ := Aside0.mk (below_drew1 HBW.out)
    clear BK HBW
    have BK := n0_
    have HBW := n1_
    clear n0_ n1_
    refine start_ (n := 6) (S := fun _ => True) (ds := []) #[false, false, false, false, false, false] (by kernel_rfl) rfl rfl trivial (fun hHeld => ?_)
    refine with_tabW ch4_tab ch4_bits (fun HT_ HW_ => ?_)
    refine pure_ (i := 0) (N := some 21) (v := ?_) (a' := ?_) #[true, false, false, false, false, false] rfl rfl (any_of HT_.out (by kernel_rfl)) (fun _ _ _ h => h) (Or.inl ⟨by rfl, ?_⟩) ?_ ?_
    rotate_left
    · intro w'
      go_simp
      with_reducible rfl
    rotate_left
    · simp only [Act.put, List.setIfInBounds_toArray, List.set_cons_zero, List.set_cons_succ, i64_w, i32_w]
      rfl
    refine pure_ (i := 1) (N := some 22) (v := ?_) (a' := ?_) #[true, true, false, false, false, false] rfl rfl (any_of HT_.out (by kernel_rfl)) (fun _ _ _ h => h) (Or.inl ⟨by rfl, ?_⟩) ?_ ?_
    rotate_left
    · intro w'
      go_simp
      with_reducible rfl
    rotate_left
    · simp only [Act.put, List.setIfInBounds_toArray, List.set_cons_zero, List.set_cons_succ, i64_w, i32_w]
      rfl
    refine pure_ (i := 2) (N := some 23) (v := ?_) (a' := ?_) #[true, true, true, false, false, false] rfl rfl (any_of HT_.out (by kernel_rfl)) (fun _ _ _ h => h) (Or.inl ⟨by rfl, ?_⟩) ?_ ?_
    rotate_left
    · intro w'
      go_simp
      with_reducible rfl
    rotate_left
    · simp only [Act.put, List.setIfInBounds_toArray, List.set_cons_zero, List.set_cons_succ, i64_w, i32_w]
      rfl
    refine pure_ (i := 3) (N := some 24) (v := ?_) (a' := ?_) #[true, true, true, true, false, false] rfl rfl (any_of HT_.out (by kernel_rfl)) (fun _ _ _ h => h) (Or.inl ⟨by rfl, ?_⟩) ?_ ?_
    rotate_left
    · intro w'
      go_simp
      with_reducible rfl
    rotate_left
    · simp only [Act.put, List.setIfInBounds_toArray, List.set_cons_zero, List.set_cons_succ, i64_w, i32_w]
      rfl
    refine pure_ (i := 4) (N := some 9) (v := ?_) (a' := ?_) #[true, true, true, true, true, false] rfl rfl (any_of HT_.out (by kernel_rfl)) (fun _ _ _ h => h) (Or.inl ⟨by rfl, ?_⟩) ?_ ?_
    rotate_left
    · intro w'
      go_simp
      with_reducible rfl
    rotate_left
    · simp only [Act.put, List.setIfInBounds_toArray, List.set_cons_zero, List.set_cons_succ, i64_w, i32_w]
      rfl
    refine pure_ (i := 5) (N := some 10) (v := ?_) (a' := ?_) #[true, true, true, true, true, true] rfl rfl (any_of HT_.out (by kernel_rfl)) (fun _ _ _ h => h) (Or.inl ⟨by rfl, ?_⟩) ?_ ?_
    rotate_left
    · intro w'
      go_simp
      with_reducible rfl
    rotate_left
    · simp only [Act.put, List.setIfInBounds_toArray, List.set_cons_zero, List.set_cons_succ, i64_w, i32_w]
      rfl
    refine done_ (done_of HT_.out (by kernel_rfl)) ?_
    go_wp2
    refine ⟨⟨y, x % y, rfl, by first | rfl | exact congrArg _ etm, HG1, BK, HBW⟩, ?_⟩
    show ((x : Int).tmod (y : Int)).toNat < ((y : Int)).toNat
    rw [etm]
    have := HLT.out
    omega
  · have d1 : decide ((0 : Int) < (y : Int)) = false := decide_eq_false (by omega)
    have d2 : decide ((y : Int) > 0) = false := decide_eq_false (by omega)
    obtain rfl : y = 0 := by omega
    have hg : x = Nat.gcd s t := by rw [← HG.out.1, Nat.gcd_zero_right]
    have hx0 : 0 < x := by rw [hg]; exact Nat.gcd_pos_of_pos_right _ HST.out.1
    have z1 : ((x : Int) == 0) = false := beq_false_of_ne (by omega)
    have z2 : ¬ (x : Int) = 0 := by omega
    have z3 : ¬ x = 0 := by omega
    have q1 : wrap64 (Int.tdiv (s : Int) (x : Int)) = ((s / x : Nat) : Int) := by
     show wrap64 ((s / x : Nat) : Int) = _
     have hu := Nat.div_le_self s x
     generalize s / x = u at hu ⊢
     have := HST.out
     exact w64' _ (by omega) (by omega)
    have q2 : wrap64 (Int.tdiv (t : Int) (x : Int)) = ((t / x : Nat) : Int) := by
     show wrap64 ((t / x : Nat) : Int) = _
     have hu := Nat.div_le_self t x
     generalize t / x = u at hu ⊢
     have := HST.out
     exact w64' _ (by omega) (by omega)
    have HQ := Aside0.mk (And.intro q1 q2)
    have HGX := Aside0.mk hg
    clear q1 q2 hg hx0
    go_wp2
    have n0_ := Aside0.mk (blk_drew BK.out)
    have n1_ := Aside0.mk (below_drew1 HBW.out)
    clear BK HBW
    have BK := n0_
    have HBW := n1_
    clear n0_ n1_
    refine start_ (n := 8) (S := fun _ => True) (ds := []) #[false, false, false, false, false, false, false, false] (by kernel_rfl) rfl rfl trivial (fun hHeld => ?_)
    refine with_tabW ch5_tab ch5_bits (fun HT_ HW_ => ?_)
    generalize wr.drew = w8 at BK HBW hHeld ⊢
    refine pure_ (i := 0) (N := some 25) (v := ?_) (a' := ?_) #[true, false, false, false, false, false, false, false] rfl rfl (any_of HT_.out (by kernel_rfl)) (fun _ _ _ h => h) (Or.inl ⟨by rfl, ?_⟩) ?_ ?_
    rotate_left
    · intro w'
      go_simp
      with_reducible rfl
    rotate_left
    · simp only [Act.put, List.setIfInBounds_toArray, List.set_cons_zero, List.set_cons_succ, i64_w, i32_w]
      rfl
    refine pure_ (i := 1) (N := some 26) (v := ?_) (a' := ?_) #[true, true, false, false, false, false, false, false] rfl rfl (any_of HT_.out (by kernel_rfl)) (fun _ _ _ h => h) (Or.inl ⟨by rfl, ?_⟩) ?_ ?_
    rotate_left
    · intro w'
      go_simp
      with_reducible rfl
    rotate_left
    · simp only [Act.put, List.setIfInBounds_toArray, List.set_cons_zero, List.set_cons_succ, i64_w, i32_w]
      rfl
    refine pure_ (i := 2) (N := some 27) (v := ?_) (a' := ?_) #[true, true, true, false, false, false, false, false] rfl rfl (any_of HT_.out (by kernel_rfl)) (fun _ _ _ h => h) (Or.inl ⟨by rfl, ?_⟩) ?_ ?_
    rotate_left
    · intro w'
      go_simp
      with_reducible rfl
    rotate_left
    · simp only [Act.put, List.setIfInBounds_toArray, List.set_cons_zero, List.set_cons_succ, i64_w, i32_w]
      rfl
    refine pure_ (i := 3) (N := some 28) (v := ?_) (a' := ?_) #[true, true, true, true, false, false, false, false] rfl rfl (any_of HT_.out (by kernel_rfl)) (fun _ _ _ h => h) (Or.inl ⟨by rfl, ?_⟩) ?_ ?_
    rotate_left
    · intro w'
      go_simp
      with_reducible rfl
    rotate_left
    · simp only [Act.put, List.setIfInBounds_toArray, List.set_cons_zero, List.set_cons_succ, i64_w, i32_w]
      rfl
    refine pure_ (i := 4) (N := some 29) (v := ?_) (a' := ?_) #[true, true, true, true, true, false, false, false] rfl rfl (any_of HT_.out (by kernel_rfl)) (fun _ _ _ h => h) (Or.inl ⟨by rfl, ?_⟩) ?_ ?_
    rotate_left
    · intro w'
      go_simp
      with_reducible rfl
    rotate_left
    · simp only [Act.put, List.setIfInBounds_toArray, List.set_cons_zero, List.set_cons_succ, i64_w, i32_w]
      rfl
    refine pure_ (i := 5) (N := some 30) (v := ?_) (a' := ?_) #[true, true, true, true, true, true, false, false] rfl rfl (any_of HT_.out (by kernel_rfl)) (fun _ _ _ h => h) (Or.inl ⟨by rfl, ?_⟩) ?_ ?_
    rotate_left
    · intro w'
      go_simp
      with_reducible rfl
    rotate_left
    · simp only [Act.put, List.setIfInBounds_toArray, List.set_cons_zero, List.set_cons_succ, i64_w, i32_w]
      rfl
    refine pure_ (i := 6) (N := some 31) (v := ?_) (a' := ?_) #[true, true, true, true, true, true, true, false] rfl rfl (any_of HT_.out (by kernel_rfl)) (fun _ _ _ h => h) (Or.inl ⟨by rfl, ?_⟩) ?_ ?_
    rotate_left
    · intro w'
      go_simp
      with_reducible rfl
    rotate_left
    · simp only [Act.put, List.setIfInBounds_toArray, List.set_cons_zero, List.set_cons_succ, i64_w, i32_w]
      rfl
    refine one_ (i := 7) (N := none) #[true, true, true, true, true, true, true, true] rfl rfl (one_of HT_.out (by kernel_rfl)) (by decide) (fun K hK => ?_)
    have hs9 : w8.cell? ⟨Br, 0, none⟩ = some (.int .i64 0) := (blk_cell BK.out 0).trans rfl
    have hfs9 := blk_frozen BK.out 0
    have hs10 : w8.cell? ⟨Br, 1, none⟩ = some (.int .i64 0) := (blk_cell BK.out 1).trans rfl
    have hfs10 := blk_frozen BK.out 1
    refine skip_ (w1 := ?_) (by rfl) rfl ?_ ?_
    rotate_left
    · go_simp
      rfl
    refine hK.out _ _ trivial (fun hHeld => ?_)
    clear hK K
    refine done_ (done_of HT_.out (by kernel_rfl)) ?_
    try go_wp2
    refine bodyPost_ret (results_cell_row rfl _ _ Br 34 #[.int .i64 (wrap64 (Int.tdiv (s : Int) (x : Int))), .int .i64 (wrap64 (Int.tdiv (t : Int) (x : Int)))] (0, 0) _ rfl (by refine blk_put (cs := #[.int .i64 (wrap64 (Int.tdiv (s : Int) (x : Int))), .int .i64 0]) ?_ 1 _ rfl; refine blk_put (cs := #[.int .i64 0, .int .i64 0]) ?_ 0 _ rfl; exact BK.out) Try.underlying34 rfl (by kernel_rfl)) rfl ?_
    refine ⟨?_, below_set (below_set HBW.out HBr.out) HBr.out⟩
    unfold lowI
    rw [← HGX.out, HQ.out.1, HQ.out.2]

end Go.Proofs.Ythddeillkdediaa.H

/- Choices, one by one. -/
namespace Go.Proofs.Ythddeillkdediaa.H
open Go.RowKit Go.Proofs.YthddeillkdediaaW.PrintWords Go.Proofs.YthddeillkdediaaW.PrintLast Go.Proofs.YthddeillkdediaaW.PrintMore
open Go.Shelf Go.Proofs.Ythddeillkdediaa.QA
set_option linter.unusedVariables false
set_option linter.unusedSimpArgs false

/-- All choices of a list: what is taken, and what is left. -/
def splitsL : List Int → List (List Int × List Int)
 | [] => [([], [])]
 | x :: l => (splitsL l).flatMap fun p => [(x :: p.1, p.2), (p.1, x :: p.2)]
theorem splits_sum (h : Int → Int) : ∀ (l : List Int) (p : List Int × List Int), p ∈ splitsL l → sumI (l.map h) = sumI (p.1.map h) + sumI (p.2.map h)
 | [], p, hp => by
  obtain rfl := List.mem_singleton.1 hp
  rfl
 | x :: l, p, hp => by
  obtain ⟨q, hq, hp⟩ := List.mem_flatMap.1 hp
  have ih := splits_sum h l q hq
  simp only [List.map_cons, sumI]
  rcases List.mem_cons.1 hp with rfl | hp
  · simp only [List.map_cons, sumI]; omega
  · obtain rfl := List.mem_singleton.1 hp
    simp only [List.map_cons, sumI]; omega
theorem splits_len : ∀ (l : List Int) (p : List Int × List Int), p ∈ splitsL l → p.1.length + p.2.length = l.length
 | [], p, hp => by
  obtain rfl := List.mem_singleton.1 hp
  rfl
 | x :: l, p, hp => by
  obtain ⟨q, hq, hp⟩ := List.mem_flatMap.1 hp
  have ih := splits_len l q hq
  rcases List.mem_cons.1 hp with rfl | hp
  · simp only [List.length_cons]; omega
  · obtain rfl := List.mem_singleton.1 hp
    simp only [List.length_cons]; omega
theorem splits_count : ∀ l : List Int, (splitsL l).length = 2 ^ l.length
 | [] => rfl
 | x :: l => by
  have h : ∀ L : List (List Int × List Int), (L.flatMap fun p => [(x :: p.1, p.2), (p.1, x :: p.2)]).length = 2 * L.length := fun L => by
   induction L with
   | nil => rfl
   | cons a L ih => simp only [List.flatMap_cons, List.length_append, ih, List.length_cons, List.length_nil]; omega
  rw [splitsL, h, splits_count l, List.length_cons, Nat.pow_succ, Nat.mul_comm]
theorem splits_self : ∀ a b : List Int, (a, b) ∈ splitsL (a ++ b)
 | [], b => by
  induction b with
  | nil => simp [splitsL]
  | cons y b ih => exact List.mem_flatMap.2 ⟨([], b), ih, by simp⟩
 | x :: a, b => List.mem_flatMap.2 ⟨(a, b), splits_self a b, by simp⟩
theorem stepT_comm (n r r' : Int) (F : Int × Int → Int) : stepT n r (stepT n r' F) = stepT n r' (stepT n r F) := by
 funext e
 unfold stepT
 simp only
 rw [show e.2 - r - r' = e.2 - r' - r by omega]
 split <;> (try split) <;> omega
theorem wT_cons (n r : Int) (rs : List Int) : wT n (r :: rs) = stepT n r (wT n rs) := by
 have h : ∀ (rs : List Int) (F : Int × Int → Int), rs.foldl (fun F r => stepT n r F) (stepT n r F) = stepT n r (rs.foldl (fun F r => stepT n r F) F) := by
  intro rs
  induction rs with
  | nil => intro F; rfl
  | cons r' rs ih =>
   intro F
   simp only [List.foldl_cons]
   rw [stepT_comm, ih]
 unfold wT
 rw [List.foldl_cons, h]
/-- Choices with so many elements, and such a sum of ranks. -/
def cntR (ρ : Int → Int) (l : List Int) (e : Int × Int) : Nat := (splitsL l).countP fun p => decide ((p.1.length : Int) = e.1) && decide (sumI (p.1.map ρ) = e.2)
theorem cntR_cons (ρ : Int → Int) (x : Int) (l : List Int) (e : Int × Int) : cntR ρ (x :: l) e = cntR ρ l e + cntR ρ l (e.1 - 1, e.2 - ρ x) := by
 unfold cntR
 rw [splitsL]
 generalize splitsL l = L
 induction L with
 | nil => rfl
 | cons p L ih =>
  rw [List.flatMap_cons, List.countP_append, ih]
  simp only [List.countP_cons, List.countP_nil, List.length_cons, List.map_cons, sumI]
  have h1 : (decide (((p.1.length + 1 : Nat) : Int) = e.1) && decide (ρ x + sumI (p.1.map ρ) = e.2)) = (decide ((p.1.length : Int) = e.1 - 1) && decide (sumI (p.1.map ρ) = e.2 - ρ x)) := by
   congr 1
   · rw [decide_eq_decide]; omega
   · rw [decide_eq_decide]; omega
  rw [h1]
  omega
theorem wT_cnt (n : Int) (ρ : Int → Int) : ∀ (l : List Int) (e : Int × Int), e.1 ≤ n → wT n (l.map ρ) e = (cntR ρ l e : Nat)
 | [], e, he => by
  show startT e = _
  unfold startT cntR splitsL
  obtain ⟨u, v⟩ := e
  simp only [Prod.mk.injEq, List.countP_cons, List.countP_nil, List.length_nil, List.map_nil, sumI]
  by_cases h : u = 0 ∧ v = 0
  · obtain ⟨rfl, rfl⟩ := h; simp
  · rw [if_neg h]
    have : ¬ ((decide (((0 : Nat) : Int) = u) && decide ((0 : Int) = v)) = true) := by
     simp only [Bool.and_eq_true, decide_eq_true_eq]
     exact fun hh => h ⟨by omega, by omega⟩
    rw [if_neg this]
    rfl
 | x :: l, e, he => by
  rw [List.map_cons, wT_cons, cntR_cons]
  unfold stepT
  rw [if_neg (by omega), wT_cnt n ρ l e he, wT_cnt n ρ l (e.1 - 1, e.2 - ρ x) (by simp only; omega)]
  omega
theorem square (c : List Int) : sumI (c.map fun x => sumI (c.map fun y => scoreI y x)) = (c.length : Int) * c.length := by
 have h1 : sumI (c.map fun x => sumI (c.map fun y => scoreI y x)) + sumI (c.map fun x => sumI (c.map fun y => scoreI x y)) = 2 * (c.length : Int) * c.length := by
  rw [← sumI_add, sumI_congr c _ (fun _ => 2 * (c.length : Int)) (fun x _ => by
   rw [← sumI_add, sumI_congr c _ (fun _ => (2 : Int)) (fun y _ => by have := scoreI_two x y; omega), sumI_const]), sumI_const]
 have h2 := sumI_swap c c (fun x y => scoreI y x)
 rw [h2] at h1 ⊢
 have h3 : (2 : Int) * c.length * c.length = 2 * ((c.length : Int) * c.length) := Int.mul_assoc _ _ _
 omega
/-- The ranks of what is taken are together as many as its pairs make, and twice all pairs less its beats. -/
theorem ranks_beats (l : List Int) (p : List Int × List Int) (hp : p ∈ splitsL l) : sumI (p.1.map (rankI l)) = (p.1.length : Int) * ((p.1.length : Int) + 1) + 2 * (p.1.length : Int) * (p.2.length : Int) - beatsI p.1 p.2 := by
 have h1 : ∀ x, rankI l x = 1 + (sumI (p.1.map fun y => scoreI y x) + sumI (p.2.map fun y => scoreI y x)) := fun x => by
  unfold rankI
  rw [splits_sum _ l p hp]
 rw [sumI_congr p.1 _ _ (fun x _ => h1 x), sumI_add, sumI_add, sumI_const, square]
 have h2 : sumI (p.1.map fun x => sumI (p.2.map fun y => scoreI y x)) + beatsI p.1 p.2 = 2 * (p.1.length : Int) * (p.2.length : Int) := by
  unfold beatsI
  rw [← sumI_add, sumI_congr p.1 _ (fun _ => 2 * (p.2.length : Int)) (fun x _ => by
   rw [← sumI_add, sumI_congr p.2 _ (fun _ => (2 : Int)) (fun y _ => by have := scoreI_two x y; omega), sumI_const]), sumI_const]
  rw [Int.mul_assoc, Int.mul_comm (p.2.length : Int), ← Int.mul_assoc]
 have h3 : (p.1.length : Int) * ((p.1.length : Int) + 1) = (p.1.length : Int) * (p.1.length : Int) + p.1.length := by rw [Int.mul_add, Int.mul_one]
 omega
theorem beats_in (c d : List Int) : 0 ≤ beatsI c d ∧ beatsI c d ≤ 2 * (c.length : Int) * (d.length : Int) := by
 unfold beatsI
 have h1 := sumI_in (c.map fun x => sumI (d.map fun y => scoreI x y)) 0 (2 * (d.length : Int)) (fun z hz => by
  obtain ⟨x, _, rfl⟩ := List.mem_map.1 hz
  have := sumI_in (d.map fun y => scoreI x y) 0 2 (fun y hy => by obtain ⟨u, _, rfl⟩ := List.mem_map.1 hy; exact scoreI_in _ _)
  rw [List.length_map] at this
  omega)
 rw [List.length_map] at h1
 rw [show 2 * (c.length : Int) * (d.length : Int) = 2 * (d.length : Int) * (c.length : Int) by rw [Int.mul_assoc, Int.mul_comm (c.length : Int), ← Int.mul_assoc]]
 omega
/-- The choices of as many elements as a has, whose beats hold. -/
def cntB (a b : List Int) (q : Int → Bool) : Nat := (splitsL (a ++ b)).countP fun p => decide (p.1.length = a.length) && q (beatsI p.1 p.2)
theorem chF_cnt (a b : List Int) (x : Int) : chF a b x = (cntB a b (fun y => decide (y = x)) : Nat) := by
 unfold chF ranksI
 rw [wT_cnt (a.length : Int) (rankI (a ++ b)) (a ++ b) ((a.length : Int), restI a b - x) (Int.le_refl _)]
 unfold cntR cntB
 congr 1
 refine List.countP_congr fun p hp => ?_
 have h1 := ranks_beats (a ++ b) p hp
 have h2 := splits_len (a ++ b) p hp
 rw [List.length_append] at h2
 simp only [Bool.and_eq_true, decide_eq_true_eq]
 unfold restI
 constructor
 · rintro ⟨h3, h4⟩
   have h5 : p.1.length = a.length := by omega
   have h6 : p.2.length = b.length := by omega
   rw [h5, h6] at h1
   exact ⟨h5, by omega⟩
 · rintro ⟨h5, h4⟩
   have h6 : p.2.length = b.length := by omega
   rw [h5, h6] at h1
   exact ⟨by omega, by omega⟩
/-- The numbers of beats that there may be. -/
def beatsU (a b : List Int) : List Int := (List.range (2 * a.length * b.length + 1)).map Int.ofNat
theorem beatsU_nodup (a b : List Int) : (beatsU a b).Nodup := List.Pairwise.map _ (fun x y h e => h (Int.ofNat.inj e)) List.nodup_range
theorem mem_beatsU (a b : List Int) (x : Int) : x ∈ beatsU a b ↔ 0 ≤ x ∧ x ≤ 2 * (a.length : Int) * (b.length : Int) := by
 unfold beatsU
 have h : ((2 * a.length * b.length : Nat) : Int) = 2 * (a.length : Int) * (b.length : Int) := by push_cast; rfl
 rw [← h, List.mem_map]
 constructor
 · rintro ⟨k, hk, rfl⟩
   have := List.mem_range.1 hk
   exact ⟨Int.natCast_nonneg _, by show ((k : Nat) : Int) ≤ _; omega⟩
 · rintro ⟨h1, h2⟩
   exact ⟨x.toNat, List.mem_range.2 (by omega), Int.toNat_of_nonneg h1⟩
theorem chF_sup (a b : List Int) (x : Int) (h : chF a b x ≠ 0) : x ∈ beatsU a b := by
 rw [chF_cnt] at h
 have h1 : 0 < cntB a b (fun y => decide (y = x)) := by omega
 obtain ⟨p, hp, hq⟩ := List.countP_pos_iff.1 h1
 simp only [Bool.and_eq_true, decide_eq_true_eq] at hq
 have h2 := splits_len (a ++ b) p hp
 rw [List.length_append] at h2
 have h3 := beats_in p.1 p.2
 rw [hq.2, hq.1, show p.2.length = b.length by omega] at h3
 exact (mem_beatsU a b x).2 h3
theorem chF_pos (a b : List Int) (x : Int) : 0 ≤ chF a b x := by rw [chF_cnt]; omega
theorem sum_count {α : Type} (U : List Int) (hn : U.Nodup) (P : α → Bool) (v : α → Int) (q : Int → Bool) : ∀ S : List α, (∀ p ∈ S, P p = true → v p ∈ U) → sumI (U.map (keep q fun x => ((S.countP fun p => P p && decide (v p = x) : Nat) : Int))) = ((S.countP fun p => P p && q (v p) : Nat) : Int)
 | [], _ => by
  unfold keep
  simp only [List.countP_nil]
  rw [sumI_congr U _ (fun _ => (0 : Int)) (fun x _ => by split <;> rfl), sumI_const]
  omega
 | p :: S, h => by
  have ih := sum_count U hn P v q S (fun p hp => h p (by simp [hp]))
  have h1 : (keep q fun x => (((p :: S).countP fun p => P p && decide (v p = x) : Nat) : Int)) = fun x => keep q (fun x => ((S.countP fun p => P p && decide (v p = x) : Nat) : Int)) x + (if x = v p then (if P p = true ∧ q (v p) = true then 1 else 0) else 0) := by
   funext x
   unfold keep
   simp only [List.countP_cons]
   by_cases hx : x = v p
   · subst hx
     simp only [decide_true, Bool.and_true, if_true]
     cases q (v p) <;> cases P p <;> simp
   · rw [if_neg hx, decide_eq_false (fun e => hx e.symm)]
     simp
  rw [h1, sum_hit U hn, ih]
  simp only [List.countP_cons]
  by_cases hP : P p = true
  · rw [if_pos (h p (by simp) hP), hP]
    cases q (v p) <;> simp
  · have hPf : P p = false := by simpa using hP
    rw [hPf]
    simp
/-- The sums over the numbers of beats are those of choices. -/
theorem chF_sum (a b : List Int) (q : Int → Bool) : sumI ((beatsU a b).map (keep q (chF a b))) = (cntB a b q : Nat) := by
 have h := sum_count (beatsU a b) (beatsU_nodup a b) (fun p : List Int × List Int => decide (p.1.length = a.length)) (fun p => beatsI p.1 p.2) q (splitsL (a ++ b)) (fun p hp hP => by
  have h2 := splits_len (a ++ b) p hp
  rw [List.length_append] at h2
  have h1 : p.1.length = a.length := of_decide_eq_true hP
  have h3 := beats_in p.1 p.2
  rw [h1, show p.2.length = b.length by omega] at h3
  exact (mem_beatsU a b _).2 h3)
 unfold cntB
 rw [← h]
 refine sumI_congr _ _ _ fun x _ => ?_
 unfold keep
 rw [chF_cnt]
 rfl
theorem chF_all (a b : List Int) : sumI ((beatsU a b).map (chF a b)) = (cntB a b (fun _ => true) : Nat) := by
 rw [← chF_sum]
 refine sumI_congr _ _ _ fun x _ => ?_
 unfold keep
 rw [if_pos rfl]
theorem cntB_le (a b : List Int) (q : Int → Bool) : cntB a b q ≤ 2 ^ (a.length + b.length) := by
 unfold cntB
 have := List.countP_le_length (p := fun p : List Int × List Int => decide (p.1.length = a.length) && q (beatsI p.1 p.2)) (l := splitsL (a ++ b))
 rw [splits_count, List.length_append] at this
 exact this
theorem cntB_pos (a b : List Int) (q : Int → Bool) (h : q (beatsI a b) = true) : 0 < cntB a b q := List.countP_pos_iff.2 ⟨(a, b), splits_self a b, by simp [h]⟩

end Go.Proofs.Ythddeillkdediaa.H

/- hand.Tails, hand.Chance. -/
namespace Go.Proofs.Ythddeillkdediaa.H
open Go.RowKit Go.Proofs.YthddeillkdediaaW.PrintWords Go.Proofs.YthddeillkdediaaW.PrintLast Go.Proofs.YthddeillkdediaaW.PrintMore
open Go.Shelf Go.Proofs.Ythddeillkdediaa.QA
set_option linter.unusedVariables false
set_option linter.unusedSimpArgs false

theorem kInt_o : ∀ k, kInt.ok k → -1000000 ≤ k ∧ k ≤ 1000000 := fun _ h => h
theorem chF_ok (a b : List Int) (ha : a.length ≤ 16) (hb : b.length ≤ 16) : ∀ k, chF a b k ≠ 0 → kInt.ok k := fun k h => by
 have h1 := (mem_beatsU a b k).1 (chF_sup a b k h)
 have m2 := mul_in (x := 2 * (a.length : Int)) (y := (b.length : Int)) (p := 32) (q := 16) ⟨by omega, by omega⟩ ⟨by omega, by omega⟩
 exact ⟨by omega, by omega⟩
theorem cnt_small (a b : List Int) (q : Int → Bool) (ha : a.length ≤ 16) (hb : b.length ≤ 16) : cntB a b q ≤ 4294967296 := Nat.le_trans (cntB_le a b q) (Nat.le_trans (Nat.pow_le_pow_right (by omega) (show a.length + b.length ≤ 32 by omega)) (by decide))
theorem beats_small (a b : List Int) (ha : a.length ≤ 16) (hb : b.length ≤ 16) : 0 ≤ beatsI a b ∧ beatsI a b ≤ 512 := by
 have h1 := beats_in a b
 have m2 := mul_in (x := 2 * (a.length : Int)) (y := (b.length : Int)) (p := 32) (q := 16) ⟨by omega, by omega⟩ ⟨by omega, by omega⟩
 omega
/-- hand.Tails$1, $2 -/
theorem tails1 (Bo : Nat) (own : Int) (D : Int → Prop) (w : World) (ho : w.heap[Bo]? = some (.cells #[.int .i64 own] 3 (0, 0))) : Pred 51 #[.pointer (some ⟨Bo, 0, none⟩)] (Value.int .i64) D (fun x => decide (x ≤ own)) w := by
 intro W x hx hb
 have c0 : W.cell? ⟨Bo, 0, none⟩ = some (.int .i64 own) := (blk_cell (blk_below2 hb ho) 0).trans rfl
 show Calls Try.prog 51 #[.int .i64 x, .pointer (some ⟨Bo, 0, none⟩)] W _
 go_enter Try.func51, Try.ntmps51
 go_wp2
 go_ret
 exact ⟨rfl, Below.refl _ _⟩
theorem tails2 (Bo : Nat) (own : Int) (D : Int → Prop) (w : World) (ho : w.heap[Bo]? = some (.cells #[.int .i64 own] 3 (0, 0))) : Pred 52 #[.pointer (some ⟨Bo, 0, none⟩)] (Value.int .i64) D (fun x => decide (own ≤ x)) w := by
 intro W x hx hb
 have c0 : W.cell? ⟨Bo, 0, none⟩ = some (.int .i64 own) := (blk_cell (blk_below2 hb ho) 0).trans rfl
 show Calls Try.prog 52 #[.int .i64 x, .pointer (some ⟨Bo, 0, none⟩)] W _
 go_enter Try.func52, Try.ntmps52
 go_wp2
 go_ret
 exact ⟨rfl, Below.refl _ _⟩
def hand_Tails.f (a b : List Int) : Option (Int × Int × Int × Int) := some (if bothI a b = 0 then (((cntB a b (fun x => decide (x ≤ beatsI a b)) : Nat) : Int), ((cntB a b (fun x => decide (beatsI a b ≤ x)) : Nat) : Int), ((cntB a b (fun _ => true) : Nat) : Int), 0) else (0, 0, 0, bothI a b))
/-- The chance of two samples. -/
def chanceI (a b : List Int) : Int × Int := lowI (cntB a b fun x => decide (farI (beatsI a b) ((a.length : Int) * b.length) ≤ farI x ((a.length : Int) * b.length))) (cntB a b fun _ => true)
def hand_Chance.f (a b : List Int) : Option (Int × Int × Int) := some (if bothI a b = 0 then ((chanceI a b).1, (chanceI a b).2, 0) else (0, 0, bothI a b))
set_option maxHeartbeats 4000000 in
set_option maxRecDepth 100000 in
theorem hand_Tails.calls (A : Option Addr) (c : Nat) (a : List Int) (B : Option Addr) (d : Nat) (b : List Int) (r1 r2 r3 r4 : Int) (w : World) (hr : Kd.C (Kd.int .i64) w A a.length a) (hc : a.length ≤ c) (hr2 : Kd.C (Kd.int .i64) w B b.length b) (hc2 : b.length ≤ d) (h : hand_Tails.f a b = some (r1, r2, r3, r4)) :
  Calls Try.prog 22 #[.slice A a.length c, .slice B b.length d] w fun e w' => e = .returned (.tuple #[.int .i64 r1, .int .i64 r2, .int .i64 r3, .int .i64 r4]) ∧ Below w.heap.size w w' := by
 have HR := Aside0.mk hr
 have HR2 := Aside0.mk hr2
 have h := Option.some.inj h
 by_cases h0 : bothI a b = 0
 · rw [if_pos h0] at h
   have hl1 := (chk_len (both_ok h0).1).2
   have hl2 := (chk_len (both_ok h0).2).2
   have HB1 := Aside0.mk (show hand_Beats.f a b = some (beatsI a b, 0) by unfold hand_Beats.f; rw [if_pos h0])
   have HP := Aside0.mk (fun q => chF_sum a b q)
   have HA := Aside0.mk (chF_all a b)
   have HT := Aside0.mk (show sumI ((beatsU a b).map (chF a b)) ≤ 4611686018427387904 by rw [chF_all]; have := cnt_small a b (fun _ => true) hl1 hl2; omega)
   obtain ⟨g1, h2⟩ := Prod.mk.inj h
   obtain ⟨g2, h3⟩ := Prod.mk.inj h2
   obtain ⟨g3, g4⟩ := Prod.mk.inj h3
   clear h h2 h3
   subst g1 g2 g3 g4
   rw [← HP.out, ← HP.out, ← HA.out]
   generalize beatsI a b = own at HB1 ⊢
   clear hr hr2 h0
   go_enter Try.func22, Try.ntmps22
   go_wp2_with fail
   refine (hand_Beats.calls A c a B d b own 0 _ HR.out hc HR2.out hc2 HB1.out).mono ?_
   rintro e w1 ⟨rfl, hb1⟩
   have HW1 := Aside0.mk hb1
   have hal := below_alloc (Below.refl w1.heap.size w1) (.cells #[.int .i64 own] 3)
   have HW2 := Aside0.mk (hb1.trans (hal.mono hb1.size))
   have HBX := Aside0.mk (blk_new w1 (.cells #[.int .i64 own] 3))
   have HGE := Aside0.mk (show w.heap.size ≤ w1.heap.size from hb1.size)
   clear hb1 hal
   go_wp2_with fail
   refine (choices_calls A c a B d b _ (Kd.C_below HR.out HW2.out) hc hl1 (Kd.C_below HR2.out HW2.out) hc2 hl2).mono ?_
   rintro e w3 ⟨m, n, rfl, hM, hb3⟩
   have HM := Aside0.mk hM
   have HW3 := Aside0.mk (HW2.out.trans (hb3.mono HW2.out.size))
   have HB3 := Aside0.mk (blk_below2 hb3 HBX.out)
   clear hM hb3
   go_wp2_with fail
   refine (part_calls kInt rfl (fun _ => rfl) m n (chF a b) (fun x => decide (x ≤ own)) 51 #[.pointer (some ⟨w1.heap.size, 0, none⟩)] (enters_of Try.func51 (by kernel_rfl) rfl) (beatsU a b) _ HM.out (beatsU_nodup a b) (chF_sup a b) (chF_ok a b hl1 hl2) (chF_pos a b) HT.out (tails1 w1.heap.size own kInt.ok _ HB3.out)).mono ?_
   rintro e w4 ⟨rfl, hb4⟩
   have HM4 := Aside0.mk (HM.out.below hb4)
   have HW4 := Aside0.mk (HW3.out.trans (hb4.mono HW3.out.size))
   have HB4 := Aside0.mk (blk_below2 hb4 HB3.out)
   clear hb4
   go_wp2_with fail
   refine (part_calls kInt rfl (fun _ => rfl) m n (chF a b) (fun x => decide (own ≤ x)) 52 #[.pointer (some ⟨w1.heap.size, 0, none⟩)] (enters_of Try.func52 (by kernel_rfl) rfl) (beatsU a b) _ HM4.out (beatsU_nodup a b) (chF_sup a b) (chF_ok a b hl1 hl2) (chF_pos a b) HT.out (tails2 w1.heap.size own kInt.ok _ HB4.out)).mono ?_
   rintro e w5 ⟨rfl, hb5⟩
   have HW5 := Aside0.mk (HW4.out.trans (hb5.mono HW4.out.size))
   clear hb5
   go_wp2
   refine bodyPost_ret (results_list (rs := [.tmp 4, .tmp 5, .tmp 6, .tmp 7]) rfl (by simp) (.tmp (.tmp (.tmp (.tmp .nil))))) rfl ?_
   exact ⟨rfl, HW5.out⟩
 · rw [if_neg h0] at h
   have HB1 := Aside0.mk (show hand_Beats.f a b = some (0, bothI a b) by unfold hand_Beats.f; rw [if_neg h0])
   obtain ⟨g1, h2⟩ := Prod.mk.inj h
   obtain ⟨g2, h3⟩ := Prod.mk.inj h2
   obtain ⟨g3, g4⟩ := Prod.mk.inj h3
   clear h h2 h3
   subst g1 g2 g3 g4
   have z1 : (bothI a b == 0) = false := beq_false_of_ne h0
   have z2 : (bothI a b != 0) = true := by simp [h0]
   have z3 : decide (bothI a b = 0) = false := decide_eq_false h0
   clear hr hr2
   generalize bothI a b = q at z1 z2 z3 h0 HB1 ⊢
   go_enter Try.func22, Try.ntmps22
   go_wp2_with fail
   refine (hand_Beats.calls A c a B d b 0 q _ HR.out hc HR2.out hc2 HB1.out).mono ?_
   rintro e w1 ⟨rfl, hb1⟩
   have HW1 := Aside0.mk hb1
   clear hb1
   go_wp2
   refine bodyPost_ret (results_list (rs := [.tmp 4, .tmp 5, .tmp 6, .tmp 7]) rfl (by simp) (.tmp (.tmp (.tmp (.tmp .nil))))) rfl ?_
   exact ⟨rfl, below_alloc HW1.out _⟩
set_option maxHeartbeats 4000000 in
set_option maxRecDepth 100000 in
theorem hand_Chance.calls (A : Option Addr) (c : Nat) (a : List Int) (B : Option Addr) (d : Nat) (b : List Int) (r1 r2 r3 : Int) (w : World) (hr : Kd.C (Kd.int .i64) w A a.length a) (hc : a.length ≤ c) (hr2 : Kd.C (Kd.int .i64) w B b.length b) (hc2 : b.length ≤ d) (h : hand_Chance.f a b = some (r1, r2, r3)) :
  Calls Try.prog 24 #[.slice A a.length c, .slice B b.length d] w fun e w' => e = .returned (.tuple #[.agg #[.int .i64 r1, .int .i64 r2], .int .i64 r3]) ∧ Below w.heap.size w w' := by
 have hu34 := Try.underlying34
 have HR := Aside0.mk hr
 have HR2 := Aside0.mk hr2
 have h := Option.some.inj h
 have HB0 := Aside0.mk (below_alloc (Below.refl w.heap.size w) (.cells #[.int .i64 0, .int .i64 0] 34))
 have HK0 := Aside0.mk (blk_new w (.cells #[.int .i64 0, .int .i64 0] 34))
 by_cases h0 : bothI a b = 0
 · rw [if_pos h0] at h
   have hl1 := (chk_len (both_ok h0).1).2
   have hl2 := (chk_len (both_ok h0).2).2
   have HBT := Aside0.mk (show hand_Beats.f a b = some (beatsI a b, 0) by unfold hand_Beats.f; rw [if_pos h0])
   have m2 := mul_in (x := (a.length : Int)) (y := (b.length : Int)) (p := 16) (q := 16) ⟨by omega, by omega⟩ ⟨by omega, by omega⟩
   have hm1 : wrap64 ((a.length : Int) * (b.length : Int)) = (a.length : Int) * (b.length : Int) := w64' _ (by omega) (by omega)
   have HMI := Aside0.mk (show -1000000 ≤ (a.length : Int) * (b.length : Int) ∧ (a.length : Int) * (b.length : Int) ≤ 1000000 from ⟨Int.le_trans (by omega) m2.1, Int.le_trans m2.2 (by omega)⟩)
   have HOW := Aside0.mk (show -1000000 ≤ beatsI a b ∧ beatsI a b ≤ 1000000 from ⟨Int.le_trans (by omega) (beats_small a b hl1 hl2).1, Int.le_trans (beats_small a b hl1 hl2).2 (by omega)⟩)
   have HM1 := Aside0.mk hm1
   have HP := Aside0.mk (chF_sum a b (fun x => decide (farI (beatsI a b) ((a.length : Int) * b.length) ≤ farI x ((a.length : Int) * b.length))))
   have HTP := Aside0.mk (And.intro (cntB_pos a b (fun _ => true) rfl) (Nat.le_trans (cnt_small a b (fun _ => true) hl1 hl2) (by decide : 4294967296 ≤ 4611686018427387904)))
   have HCI := Aside0.mk (show chanceI a b = lowI (cntB a b fun x => decide (farI (beatsI a b) ((a.length : Int) * b.length) ≤ farI x ((a.length : Int) * b.length))) (cntB a b fun _ => true) from rfl)
   obtain ⟨hq1, h2⟩ := Prod.mk.inj h
   obtain ⟨hq2, hq3⟩ := Prod.mk.inj h2
   clear h h2
   subst hq3
   have HQ := Aside0.mk (And.intro hq1 hq2)
   clear m2 hm1 hq1 hq2
   generalize beatsI a b = own at HBT HOW HP HCI
   clear hr hr2 h0
   go_enter Try.func24, Try.ntmps24
   go_wp2_with fail
   refine (hand_Beats.calls A c a B d b own 0 _ (Kd.C_below HR.out HB0.out) hc (Kd.C_below HR2.out HB0.out) hc2 HBT.out).mono ?_
   rintro e w1 ⟨rfl, hb1⟩
   have HW1 := Aside0.mk (below_then HB0.out HB0.out.size hb1)
   have HK1 := Aside0.mk (blk_below2 hb1 HK0.out)
   clear hb1
   go_wp2_with fail
   refine (choices_calls A c a B d b _ (Kd.C_below HR.out HW1.out) hc hl1 (Kd.C_below HR2.out HW1.out) hc2 hl2).mono ?_
   rintro e w3 ⟨m, n, rfl, hM, hb3⟩
   have HM := Aside0.mk hM
   have HW3 := Aside0.mk (HW1.out.trans (hb3.mono HW1.out.size))
   have HK3 := Aside0.mk (blk_below2 hb3 HK1.out)
   clear hM hb3
   have hm1 := HM1.out
   go_wp2_with fail
   refine (chance_calls kInt rfl (fun _ => rfl) kInt_o m n (chF a b) ((a.length : Int) * b.length) own (beatsU a b) _ _ _ HM.out (beatsU_nodup a b) (chF_sup a b) (chF_ok a b hl1 hl2) (chF_pos a b) (chF_all a b) HP.out HTP.out.1 HTP.out.2 HMI.out HOW.out).mono ?_
   rintro e w4 ⟨rfl, hb4⟩
   have HW4 := Aside0.mk (HW3.out.trans (hb4.mono HW3.out.size))
   have hk4 := blk_below2 hb4 HK3.out
   have s0 : w4.cell? ⟨w.heap.size, 0, none⟩ = some (.int .i64 0) := (blk_cell hk4 0).trans rfl
   have s1 : w4.cell? ⟨w.heap.size, 1, none⟩ = some (.int .i64 0) := (blk_cell hk4 1).trans rfl
   have f0 := blk_frozen hk4 0
   have f1 := blk_frozen hk4 1
   have HK4 := Aside0.mk hk4
   clear hb4 hk4
   rw [← HCI.out, HQ.out.1, HQ.out.2]
   go_wp2
   refine bodyPost_ret (results_ct rfl _ _ w.heap.size 34 #[.int .i64 r1, .int .i64 r2] (0, 0) _ rfl (by refine blk_put (cs := #[.int .i64 r1, .int .i64 0]) ?_ 1 _ rfl; refine blk_put (cs := #[.int .i64 0, .int .i64 0]) ?_ 0 _ rfl; exact HK4.out) Try.underlying34 rfl (by kernel_rfl)) rfl ?_
   exact ⟨rfl, below_set (below_set HW4.out (Nat.le_refl _)) (Nat.le_refl _)⟩
 · rw [if_neg h0] at h
   have HBT := Aside0.mk (show hand_Beats.f a b = some (0, bothI a b) by unfold hand_Beats.f; rw [if_neg h0])
   obtain ⟨g1, h2⟩ := Prod.mk.inj h
   obtain ⟨g2, g3⟩ := Prod.mk.inj h2
   clear h h2
   subst g1 g2 g3
   have z1 : (bothI a b == 0) = false := beq_false_of_ne h0
   have z2 : (bothI a b != 0) = true := by simp [h0]
   have z3 : decide (bothI a b = 0) = false := decide_eq_false h0
   clear hr hr2
   generalize bothI a b = q at z1 z2 z3 h0 HBT ⊢
   go_enter Try.func24, Try.ntmps24
   go_wp2_with fail
   refine (hand_Beats.calls A c a B d b 0 q _ (Kd.C_below HR.out HB0.out) hc (Kd.C_below HR2.out HB0.out) hc2 HBT.out).mono ?_
   rintro e w1 ⟨rfl, hb1⟩
   have HW1 := Aside0.mk (below_then HB0.out HB0.out.size hb1)
   have hk4 := blk_below2 hb1 HK0.out
   have s0 : w1.cell? ⟨w.heap.size, 0, none⟩ = some (.int .i64 0) := (blk_cell hk4 0).trans rfl
   have s1 : w1.cell? ⟨w.heap.size, 1, none⟩ = some (.int .i64 0) := (blk_cell hk4 1).trans rfl
   have f0 := blk_frozen hk4 0
   have f1 := blk_frozen hk4 1
   have HK4 := Aside0.mk hk4
   clear hb1 hk4
   go_wp2
   refine bodyPost_ret (results_ct rfl _ _ w.heap.size 34 #[.int .i64 0, .int .i64 0] (0, 0) _ rfl (by refine blk_put (cs := #[.int .i64 0, .int .i64 0]) ?_ 1 _ rfl; refine blk_put (cs := #[.int .i64 0, .int .i64 0]) ?_ 0 _ rfl; exact HK4.out) Try.underlying34 rfl (by kernel_rfl)) rfl ?_
   exact ⟨rfl, below_set (below_set HW1.out (Nat.le_refl _)) (Nat.le_refl _)⟩

end Go.Proofs.Ythddeillkdediaa.H

/- Signed sums, one by one. -/
namespace Go.Proofs.Ythddeillkdediaa.H
open Go.RowKit Go.Proofs.YthddeillkdediaaW.PrintWords Go.Proofs.YthddeillkdediaaW.PrintLast Go.Proofs.YthddeillkdediaaW.PrintMore
open Go.Shelf Go.Proofs.Ythddeillkdediaa.QA
set_option linter.unusedVariables false
set_option linter.unusedSimpArgs false

/-- The sums of all ways to give signs. -/
def allS : List Int → List Int
 | [] => [0]
 | r :: rs => (allS rs).flatMap fun s => [s + r, s - r]
theorem allS_len : ∀ rs : List Int, (allS rs).length = 2 ^ rs.length
 | [] => rfl
 | r :: rs => by
  have h : ∀ L : List Int, (L.flatMap fun s => [s + r, s - r]).length = 2 * L.length := fun L => by
   induction L with
   | nil => rfl
   | cons a L ih => simp only [List.flatMap_cons, List.length_append, ih, List.length_cons, List.length_nil]; omega
  rw [allS, h, allS_len rs, List.length_cons, Nat.pow_succ, Nat.mul_comm]
theorem allS_in (m : Int) : ∀ rs : List Int, (∀ r ∈ rs, 0 ≤ r ∧ r ≤ m) → ∀ s ∈ allS rs, -(m * rs.length) ≤ s ∧ s ≤ m * rs.length
 | [], _, s, hs => by
  obtain rfl := List.mem_singleton.1 hs
  simp
 | r :: rs, h, s, hs => by
  obtain ⟨t, ht, hs⟩ := List.mem_flatMap.1 hs
  have ih := allS_in m rs (fun x hx => h x (by simp [hx])) t ht
  have hr := h r (by simp)
  have e : m * ((r :: rs).length : Nat) = m * rs.length + m := by rw [List.length_cons, Int.natCast_add, Int.mul_add]; simp
  rw [e]
  rcases List.mem_cons.1 hs with rfl | hs
  · omega
  · obtain rfl := List.mem_singleton.1 hs
    omega
theorem stepS_comm (r r' : Int) (F : Int → Int) : stepS r (stepS r' F) = stepS r' (stepS r F) := by
 funext e
 unfold stepS
 rw [show e - r - r' = e - r' - r by omega, show e - r + r' = e + r' - r by omega, show e + r - r' = e - r' + r by omega, show e + r + r' = e + r' + r by omega]
 omega
theorem wS_cons (r : Int) (rs : List Int) : wS (r :: rs) = stepS r (wS rs) := by
 have h : ∀ (rs : List Int) (F : Int → Int), rs.foldl (fun F r => stepS r F) (stepS r F) = stepS r (rs.foldl (fun F r => stepS r F) F) := by
  intro rs
  induction rs with
  | nil => intro F; rfl
  | cons r' rs ih =>
   intro F
   simp only [List.foldl_cons]
   rw [stepS_comm, ih]
 unfold wS
 rw [List.foldl_cons, h]
theorem wS_cnt : ∀ (rs : List Int) (e : Int), wS rs e = (((allS rs).countP fun s => decide (s = e) : Nat) : Int)
 | [], e => by
  show startS e = _
  unfold startS allS
  simp only [List.countP_cons, List.countP_nil]
  by_cases h : e = 0
  · subst h; simp
  · rw [if_neg h, decide_eq_false (fun h2 => h h2.symm)]
    rfl
 | r :: rs, e => by
  rw [wS_cons]
  unfold stepS
  rw [wS_cnt rs, wS_cnt rs, allS]
  generalize allS rs = L
  induction L with
  | nil => rfl
  | cons s L ih =>
   rw [List.flatMap_cons, List.countP_append]
   simp only [List.countP_cons, List.countP_nil]
   have h1 : decide (s + r = e) = decide (s = e - r) := by rw [decide_eq_decide]; omega
   have h2 : decide (s - r = e) = decide (s = e + r) := by rw [decide_eq_decide]; omega
   rw [h1, h2]
   omega
theorem wS_sum (rs : List Int) (U : List Int) (hn : U.Nodup) (hU : ∀ s ∈ allS rs, s ∈ U) (q : Int → Bool) : sumI (U.map (keep q (wS rs))) = (((allS rs).countP q : Nat) : Int) := by
 have h := sum_count U hn (fun _ : Int => true) (fun s => s) q (allS rs) (fun s hs _ => hU s hs)
 simp only [Bool.true_and] at h
 rw [← h]
 refine sumI_congr _ _ _ fun x _ => ?_
 unfold keep
 rw [wS_cnt]
theorem wS_all (rs : List Int) (U : List Int) (hn : U.Nodup) (hU : ∀ s ∈ allS rs, s ∈ U) : sumI (U.map (wS rs)) = ((2 ^ rs.length : Nat) : Int) := by
 have h := wS_sum rs U hn hU (fun _ => true)
 rw [List.countP_true, allS_len] at h
 rw [← h]
 refine sumI_congr _ _ _ fun x _ => ?_
 unfold keep
 rw [if_pos rfl]
theorem wS_sup (rs : List Int) (U : List Int) (hU : ∀ s ∈ allS rs, s ∈ U) (e : Int) (h : wS rs e ≠ 0) : e ∈ U := by
 rw [wS_cnt] at h
 have h1 : 0 < (allS rs).countP fun s => decide (s = e) := by omega
 obtain ⟨s, hs, hq⟩ := List.countP_pos_iff.1 h1
 rw [← of_decide_eq_true hq]
 exact hU s hs
/-- The sums that n ranks may have. -/
def sumsU (n : Nat) : List Int := (List.range (2000 * n + 1)).map fun k : Nat => (k : Int) - 1000 * n
theorem sumsU_nodup (n : Nat) : (sumsU n).Nodup := List.Pairwise.map _ (fun x y h e => h (by omega)) List.nodup_range
theorem mem_sumsU (n : Nat) (x : Int) : x ∈ sumsU n ↔ -1000 * (n : Int) ≤ x ∧ x ≤ 1000 * (n : Int) := by
 unfold sumsU
 rw [List.mem_map]
 constructor
 · rintro ⟨k, hk, rfl⟩
   have := List.mem_range.1 hk
   omega
 · rintro ⟨h1, h2⟩
   exact ⟨(x + 1000 * n).toNat, List.mem_range.2 (by omega), by omega⟩
theorem allS_sums (rs : List Int) (h : ∀ r ∈ rs, 0 ≤ r ∧ r ≤ 1000) : ∀ s ∈ allS rs, s ∈ sumsU rs.length := fun s hs => by
 have := allS_in 1000 rs h s hs
 exact (mem_sumsU _ _).2 (by omega)
/-- Pairs that differ: by how much, and which way. -/
def dfI (l : List (Int × Int)) : List Int := (l.filter fun p => decide (p.1 ≠ p.2)).map fun p => farI p.1 p.2
def sgI (l : List (Int × Int)) : List Int := (l.filter fun p => decide (p.1 ≠ p.2)).map fun p => if p.1 < p.2 then 1 else -1
theorem dfI_len (l : List (Int × Int)) : (dfI l).length = (sgI l).length ∧ (dfI l).length ≤ l.length := by
 unfold dfI sgI
 refine ⟨by rw [List.length_map, List.length_map], ?_⟩
 rw [List.length_map]
 exact List.length_filter_le _ _
theorem zip_take (a b : List Int) {i : Nat} (h1 : i < a.length) (h2 : i < b.length) : (a.zip b).take (i + 1) = (a.zip b).take i ++ [(rd a i, rd b i)] := by
 have hl : i < (a.zip b).length := by rw [List.length_zip]; omega
 rw [List.take_add_one, List.getElem?_eq_getElem hl, List.getElem_zip]
 unfold rd
 rw [Int.toNat_natCast, List.getD_eq_getElem?_getD, List.getElem?_eq_getElem h1, List.getD_eq_getElem?_getD, List.getElem?_eq_getElem h2]
 rfl
theorem dfI_snoc (l : List (Int × Int)) (x y : Int) : dfI (l ++ [(x, y)]) = dfI l ++ (if x = y then [] else [farI x y]) := by
 unfold dfI
 rw [List.filter_append, List.map_append]
 congr 1
 by_cases h : x = y <;> simp [h]
theorem sgI_snoc (l : List (Int × Int)) (x y : Int) : sgI (l ++ [(x, y)]) = sgI l ++ (if x = y then [] else [if x < y then 1 else -1]) := by
 unfold sgI
 rw [List.filter_append, List.map_append]
 congr 1
 by_cases h : x = y <;> simp [h]
/-- The signed sum. -/
def dotI : List Int → List Int → Int
 | s :: ss, r :: rs => s * r + dotI ss rs
 | _, _ => 0
theorem dotI_take : ∀ (ss rs : List Int) (i : Nat), i < ss.length → i < rs.length → dotI (ss.take (i + 1)) (rs.take (i + 1)) = dotI (ss.take i) (rs.take i) + rd ss i * rd rs i
 | s :: ss, r :: rs, 0, _, _ => by simp [dotI, rd]
 | s :: ss, r :: rs, i + 1, h1, h2 => by
  have ih := dotI_take ss rs i (by simpa using h1) (by simpa using h2)
  have e1 : rd (s :: ss) ((i + 1 : Nat) : Int) = rd ss (i : Int) := by unfold rd; simp
  have e2 : rd (r :: rs) ((i + 1 : Nat) : Int) = rd rs (i : Int) := by unfold rd; simp
  rw [e1, e2, List.take_succ_cons, List.take_succ_cons, List.take_succ_cons, List.take_succ_cons]
  simp only [dotI]
  omega
theorem sgI_in (l : List (Int × Int)) : ∀ s ∈ sgI l, s = 1 ∨ s = -1 := fun s hs => by
 unfold sgI at hs
 obtain ⟨p, _, rfl⟩ := List.mem_map.1 hs
 split
 · exact .inl rfl
 · exact .inr rfl
theorem dotI_in (m : Int) : ∀ (ss rs : List Int), (∀ s ∈ ss, s = 1 ∨ s = -1) → (∀ r ∈ rs, 0 ≤ r ∧ r ≤ m) → 0 ≤ m → -(m * rs.length) ≤ dotI ss rs ∧ dotI ss rs ≤ m * rs.length
 | s :: ss, r :: rs, h1, h2, h3 => by
  have ih := dotI_in m ss rs (fun x hx => h1 x (by simp [hx])) (fun x hx => h2 x (by simp [hx])) h3
  have hr := h2 r (by simp)
  have e : m * ((r :: rs).length : Nat) = m * rs.length + m := by rw [List.length_cons, Int.natCast_add, Int.mul_add]; simp
  rw [e]
  simp only [dotI]
  rcases h1 s (by simp) with h | h <;> rw [h] <;> omega
 | [], rs, _, _, h3 => by
  have := Int.mul_nonneg h3 (Int.natCast_nonneg rs.length)
  simp only [dotI]
  omega
 | s :: ss, [], _, _, _ => by simp [dotI]
/-- The signed sum, and the paired chance. -/
def pairsL (a b : List Int) : List (Int × Int) := a.zip b
def psum (a b : List Int) : Int := dotI (sgI (pairsL a b)) (ranksI (dfI (pairsL a b)))
def pchance (a b : List Int) : Int × Int := lowI ((allS (ranksI (dfI (pairsL a b)))).countP fun x => decide (farI (psum a b) 0 ≤ farI x 0)) (2 ^ (dfI (pairsL a b)).length)
def hand_Paired.f (a b : List Int) : Option (Int × Int × Int × Int) := some (if bothI a b = 0 then (if a.length = b.length then (psum a b, (pchance a b).1, (pchance a b).2, 0) else (0, 0, 0, 6)) else (0, 0, 0, bothI a b))

end Go.Proofs.Ythddeillkdediaa.H

/- hand.Paired. -/
namespace Go.Proofs.Ythddeillkdediaa.H
open Go.RowKit Go.Proofs.YthddeillkdediaaW.PrintWords Go.Proofs.YthddeillkdediaaW.PrintLast Go.Proofs.YthddeillkdediaaW.PrintMore
open Go.Shelf Go.Proofs.Ythddeillkdediaa.QA
set_option linter.unusedVariables false
set_option linter.unusedSimpArgs false

/-- An own row of numbers. -/
def OwnI (W : World) (base : Nat) (v : Value) (xs : List Int) : Prop := W.ownsRow base 3 1 v xs.length (cellsI xs)
theorem OwnI.R {W : World} {base : Nat} {v : Value} {xs : List Int} (h : OwnI W base v xs) : Kd.R (Kd.int .i64) 3 W base (fun _ => True) v xs := ⟨fun _ _ => trivial, cellsI xs, h, repsI _ _ _ xs⟩
theorem OwnI.nil {W : World} {base : Nat} : OwnI W base (.slice none 0 0) [] := ⟨rfl, .inl ⟨rfl, rfl⟩⟩
theorem OwnI.below {W W' : World} {base : Nat} {v : Value} {xs : List Int} (h : OwnI W base v xs) (hb : Below W.heap.size W W') : OwnI W' base v xs := own_keptI h fun j cur _ hj => blk_below2 hb hj
theorem OwnI.grown {W W' : World} {base : Nat} {v : Value} {xs : List Int} {row : Option Nat} (h : OwnI W base v xs) (hg : W.grownBy W' row) (hne : ∀ k, v.ownBlock = some k → row ≠ some k) : OwnI W' base v xs := own_keptI h fun j cur e hj => (hg.block j (blk_lt2 hj) (fun h => hne j e h.symm)).trans hj
theorem OwnI.lt {W : World} {base : Nat} {v : Value} {xs : List Int} (h : OwnI W base v xs) : ∀ k, v.ownBlock = some k → base ≤ k ∧ k < W.heap.size := fun k e => by
 rcases h.2 with ⟨h3, _⟩ | ⟨g, cap, cur, rfl, h4, h5, h6⟩
 · rw [h3] at e; cases e
 · obtain rfl : g = k := Option.some.inj e
   exact ⟨h4, blk_lt2 h5⟩
theorem wpList_append_OwnI {ops : Array Oper} {rest : List Oper} {o : Oper} {a : Act} {Q : Exit → Act → World → Prop} {W : World} (t : TypeId) (ht : Try.prog.underlying t = some (.slice 3)) (hgd : o.guard = none) (s x : Operand)
  (ho : o.op = .call { callee := .builtin .append, args := #[s, x], argTypes := #[t, t] }) (base : Nat) (v : Value) (xs ys : List Int) (hs : a.eval s = v) (hv : OwnI W base v xs) (ad : Addr) (m c : Nat) (hx : a.eval x = .slice (some ad) m c) (hm : m = ys.length)
  (hc : ∀ j u, (cellsI ys)[j]? = some u → W.cell? (ad.add j) = some u) (hl : xs.length + m ≤ 1000000) (hb : base ≤ W.heap.size)
  (h : ∀ v' w', OwnI w' base v' (xs ++ ys) → Below base W w' → W.grownBy w' v.ownBlock → (v'.ownBlock = v.ownBlock ∨ v'.ownBlock = some W.heap.size) → wpList Try.prog ops Q rest (a.put o.dst v') w') : wpList Try.prog ops Q (o :: rest) a W := by
 obtain ⟨i0, hi, hz0, hz1, hz2⟩ := info_parts info3
 have hM : maxLen = 9223372036854775807 := rfl
 refine wpList_append_own_at _ hgd s x t ho base 3 i0 (.int .i64 0) 1 8 ht hi hz0 hz1 hz2 rfl (by decide) v xs.length (cellsI xs) hs hv ad m c (cellsI ys) hx (by rw [cellsI_len, hm, Nat.mul_one]) hc (cellsI_oneC ys) (by omega) (by omega) hb ?_
 intro v' w' h1 h2 h3 h4
 refine h v' w' ?_ ((Below.refl _ _).grown h2 hb (fun j ej => (hv.lt j ej).1)) h2 (by first | exact h4 | exact h3)
 unfold OwnI
 rw [List.length_append, ← hm]
 rw [show cellsI (xs ++ ys) = cellsI xs ++ cellsI ys by simp [cellsI]]
 exact h1
theorem one_cell (W : World) (x : Int) (t : TypeId) : ∀ j u, (cellsI [x])[j]? = some u → (W.alloc (.cells #[.int .i64 x] t)).cell? ((⟨W.heap.size, 0, none⟩ : Addr).add j) = some u := fun j u hu => by
 simpa using World.news_of_block (cs := #[Value.int IntKind.i64 x]) (t := t) (fr := (0, 0)) (heap_alloc_new W (Obj.cells #[Value.int IntKind.i64 x] t)) j u (by simpa [cellsI] using hu)
theorem cmp_calls (a b : Int) (w : World) : Calls Try.prog 58 #[.int .i64 a, .int .i64 b] w fun e w' => e = .returned (.int .i64 (if a < b then -1 else if b < a then 1 else 0)) ∧ Below w.heap.size w w' :=
 (cmp_Compare_int.calls a b _ w (cmp_f a b)).mono fun _ _ ⟨h1, h2⟩ => ⟨h1, by first | exact h2.below | (obtain ⟨k, h3⟩ := h2.out; rw [h3]; exact pw_below_drewN (Below.refl _ _) k)⟩
theorem und71 : Try.prog.underlying 71 = some (.slice 3) := by kernel_rfl
theorem und22 : Try.prog.underlying 22 = some (.slice 3) := by kernel_rfl
theorem rd_in (l : List Int) {i : Nat} (h : i < l.length) (hg : ∀ x ∈ l, -100000 ≤ x ∧ x ≤ 100000) : -100000 ≤ rd l (i : Int) ∧ rd l (i : Int) ≤ 100000 := hg _ (rd_mem l h)
set_option maxHeartbeats 4000000 in
set_option maxRecDepth 100000 in
theorem hand_Paired.calls (A : Option Addr) (c : Nat) (a : List Int) (B : Option Addr) (d : Nat) (b : List Int) (r1 r2 r3 r4 : Int) (w : World) (hr : Kd.C (Kd.int .i64) w A a.length a) (hc : a.length ≤ c) (hr2 : Kd.C (Kd.int .i64) w B b.length b) (hc2 : b.length ≤ d) (h : hand_Paired.f a b = some (r1, r2, r3, r4)) :
  Calls Try.prog 26 #[.slice A a.length c, .slice B b.length d] w fun e w' => e = .returned (.tuple #[.int .i64 r1, .agg #[.int .i64 r2, .int .i64 r3], .int .i64 r4]) ∧ Below w.heap.size w w' := by
 have hu34 := Try.underlying34
 have HR := Aside0.mk hr
 have HR2 := Aside0.mk hr2
 have h := Option.some.inj h
 have HB0 := Aside0.mk (below_alloc (Below.refl w.heap.size w) (.cells #[.int .i64 0, .int .i64 0] 34))
 have HK0 := Aside0.mk (blk_new w (.cells #[.int .i64 0, .int .i64 0] 34))
 have hcall := both_calls A c a B d b _ (Kd.C_below HR.out HB0.out) hc (Kd.C_below HR2.out HB0.out) hc2
 clear hr hr2
 by_cases h0 : bothI a b = 0
 · rw [if_pos h0] at h
   rw [h0] at hcall
   by_cases hl : a.length = b.length
   · rw [if_pos hl] at h
     obtain ⟨g1, h2⟩ := Prod.mk.inj h
     obtain ⟨g2, h3⟩ := Prod.mk.inj h2
     obtain ⟨g3, g4⟩ := Prod.mk.inj h3
     clear h h2 h3
     subst g4
     have HQ := Aside0.mk (And.intro g1 (And.intro g2 g3))
     have HL := Aside0.mk (And.intro hl (chk_len (both_ok h0).1))
     have HGA := Aside0.mk (chk_good (both_ok h0).1)
     have HGB := Aside0.mk (chk_good (both_ok h0).2)
     have z1 : ((a.length : Int) == (b.length : Int)) = true := beq_iff_eq.2 (by omega)
     have z2 : ((a.length : Int) != (b.length : Int)) = false := by rw [hl]; simp
     have z3 : (a.length == b.length) = true := beq_iff_eq.2 hl
     have z4 : decide ((a.length : Int) = (b.length : Int)) = true := decide_eq_true (by omega)
     clear g1 g2 g3 h0 hl
     go_enter Try.func26, Try.ntmps26
     go_wp2_with fail
     refine hcall.mono ?_
     clear hcall
     rintro e w1 ⟨rfl, hb1⟩
     have HW1 := Aside0.mk (below_then HB0.out HB0.out.size hb1)
     have HK1 := Aside0.mk (blk_below2 hb1 HK0.out)
     clear hb1
     go_wp2
     clear z1 z2 z3 z4
     have HZL := Aside0.mk (show (pairsL a b).length = a.length by unfold pairsL; rw [List.length_zip]; have := HL.out.1; omega)
     have HD0 := Aside0.mk (show OwnI w1 w1.heap.size (.slice none 0 0) (dfI ((pairsL a b).take 0)) ∧ OwnI w1 w1.heap.size (.slice none 0 0) (sgI ((pairsL a b).take 0)) ∧ (∀ k, (Value.slice none 0 0).ownBlock = some k → (Value.slice none 0 0).ownBlock ≠ some k) from ⟨OwnI.nil, OwnI.nil, fun k e => by cases e⟩)
     have HBR := Aside0.mk (Below.refl w1.heap.size w1)
     go_loopw [8, 9, 31] (fun s8 s9 s31 wr => ∃ (i : Nat) (v1 v2 : Value), v1 = s8 ∧ v2 = s9 ∧ s31 = .int .i64 i ∧ Aside0 (i ≤ a.length) ∧ Aside0 (OwnI wr w1.heap.size v1 (dfI ((pairsL a b).take i)) ∧ OwnI wr w1.heap.size v2 (sgI ((pairsL a b).take i)) ∧ (∀ k, v1.ownBlock = some k → v2.ownBlock ≠ some k)) ∧ Aside0 (Below w1.heap.size w1 wr)) (fun _ _ s31 _ => a.length - (intOf s31).toNat)
     case atStart => exact ⟨0, _, _, rfl, rfl, rfl, ⟨Nat.zero_le _⟩, HD0, HBR⟩
     case round =>
      clear HD0 HBR
      obtain ⟨i, v1, v2, rfl, rfl, rfl, HI, HD, HBR⟩ := hrel
      rename World => wr
      have HWR := Aside0.mk (HW1.out.trans (HBR.out.mono HW1.out.size))
      by_cases hlt : i < a.length
      · have hd1 : decide ((i : Int) < (a.length : Int)) = true := decide_eq_true (by omega)
        have hib : i < b.length := by have := HL.out.1; omega
        have p1 : (0 : Int) ≤ (i : Int) := by omega
        have p2 : (i : Int) < (a.length : Int) := by omega
        have p3 : (i : Int) < (b.length : Int) := by omega
        obtain ⟨ad, had, xc⟩ := Kd.at_int (Kd.C_below HR.out HWR.out) (i : Int) p1 p2
        cases had
        obtain ⟨bd, hbd, yc⟩ := Kd.at_int (Kd.C_below HR2.out HWR.out) (i : Int) p1 p3
        cases hbd
        rw [Int.toNat_natCast] at xc yc
        have HXI := Aside0.mk (rd_in a hlt HGA.out)
        have HYI := Aside0.mk (rd_in b hib HGB.out)
        have HT := Aside0.mk (show (pairsL a b).take (i + 1) = (pairsL a b).take i ++ [(rd a i, rd b i)] from zip_take a b hlt hib)
        have HYR := Aside0.mk (show ∀ W, Below w.heap.size w W → W.cell? (bd.add i) = some (.int .i64 (rd b i)) from fun W hb => by
         obtain ⟨bd2, hbd2, yc2⟩ := Kd.at_int (Kd.C_below HR2.out hb) (i : Int) p1 p3
         cases hbd2
         rw [Int.toNat_natCast] at yc2
         exact yc2)
        have HJ1 := Aside0.mk (show wrap64 ((i : Int) + 1) = ((i + 1 : Nat) : Int) by have := HL.out.2; rw [w64' _ (by omega) (by omega)]; rfl)
        have HIL := Aside0.mk hlt
        generalize rd a (i : Int) = x at xc HXI HT
        generalize rd b (i : Int) = y at yc HYI HT HYR
        clear hlt hib
        by_cases hxy : x = y
        · have d1 : (x == y) = true := beq_iff_eq.2 hxy
          have d2 : (x != y) = false := by simp [hxy]
          have d3 : decide (x = y) = true := decide_eq_true hxy
          have HE1 := Aside0.mk (show dfI ((pairsL a b).take (i + 1)) = dfI ((pairsL a b).take i) by rw [HT.out, dfI_snoc, if_pos hxy, List.append_nil])
          have HE2 := Aside0.mk (show sgI ((pairsL a b).take (i + 1)) = sgI ((pairsL a b).take i) by rw [HT.out, sgI_snoc, if_pos hxy, List.append_nil])
          clear hxy
          go_wp2
          refine ⟨⟨i + 1, v1, v2, rfl, rfl, by first | rfl | exact congrArg _ HJ1.out, ⟨HIL.out⟩, ⟨by rw [HE1.out, HE2.out]; exact HD.out⟩, HBR⟩, ?_⟩
          have := HIL.out
          first | (show a.length - ((i : Int) + 1).toNat < a.length - ((i : Int)).toNat; omega) | (rw [HJ1.out]; show a.length - (((i + 1 : Nat) : Int)).toNat < a.length - ((i : Int)).toNat; omega)
        · have d1 : (x == y) = false := beq_false_of_ne hxy
          have d2 : (x != y) = true := by simp [hxy]
          have d3 : decide (x = y) = false := decide_eq_false hxy
          have HE1 := Aside0.mk (show dfI ((pairsL a b).take (i + 1)) = dfI ((pairsL a b).take i) ++ [farI x y] by rw [HT.out, dfI_snoc, if_neg hxy])
          have HE2 := Aside0.mk (show sgI ((pairsL a b).take (i + 1)) = sgI ((pairsL a b).take i) ++ [if x < y then 1 else -1] by rw [HT.out, sgI_snoc, if_neg hxy])
          have HSG := Aside0.mk (show (if y < x then (-1 : Int) else if x < y then 1 else 0) = if x < y then 1 else -1 by
           by_cases h : x < y
           · rw [if_neg (by omega), if_pos h, if_pos h]
           · rw [if_pos (by omega), if_neg h])
          have HDL := Aside0.mk (show (dfI ((pairsL a b).take i)).length ≤ 1000 ∧ (sgI ((pairsL a b).take i)).length ≤ 1000 by
           have h1 := dfI_len ((pairsL a b).take i)
           have h2 : ((pairsL a b).take i).length ≤ (pairsL a b).length := by rw [List.length_take]; exact Nat.min_le_right _ _
           have := HZL.out
           have := HL.out.2
           omega)
          clear hxy
          generalize dfI ((pairsL a b).take i) = D at HD HE1 HDL
          generalize sgI ((pairsL a b).take i) = S at HD HE2 HDL
          go_wp2_with fail
          refine (far_calls x y _ (by have := HXI.out; omega) (by have := HYI.out; omega)).mono ?_
          rintro e w3 ⟨rfl, hb3⟩
          generalize farI x y = f at HE1 ⊢
          have hb4 : Below wr.heap.size wr (w3.alloc (.cells #[.int .i64 f] 3)) := below_alloc hb3 _
          have HD4 := Aside0.mk (And.intro (HD.out.1.below hb4) (And.intro (HD.out.2.1.below hb4) HD.out.2.2))
          have HB4 := Aside0.mk (HBR.out.trans (hb4.mono HBR.out.size))
          clear hb3 hb4
          go_wp2_with (at_builtin; refine Aside0.out ?_)
          refine ⟨?_⟩
          refine wpList_append_OwnI 71 und71 rfl _ _ rfl w1.heap.size v1 D [f] rfl HD4.out.1 ⟨w3.heap.size, 0, none⟩ 1 1 rfl rfl (one_cell w3 f 3) (by have := HDL.out; omega) HB4.out.size ?_
          intro v1' w5 hO1 hb5 hg5 ho5
          have hO2 := HD4.out.2.1.grown hg5 (fun k e h => HD4.out.2.2 k h e)
          have hap : ∀ k, v1'.ownBlock = some k → v2.ownBlock ≠ some k := fun k e h => by
           rcases ho5 with h5 | h5
           · exact HD4.out.2.2 k (h5 ▸ e) h
           · have := (HD4.out.2.1.lt k h).2
             rw [h5] at e
             have := Option.some.inj e
             omega
          have HD5 := Aside0.mk (And.intro hO1 (And.intro hO2 hap))
          have HB5 := Aside0.mk (HB4.out.trans hb5)
          have yc5 := HYR.out w5 (HW1.out.trans (HB5.out.mono HW1.out.size))
          clear hO1 hb5 hg5 ho5 hO2 hap HD4 HB4 HD HBR yc xc
          go_wp2_with fail
          refine (cmp_calls y x _).mono ?_
          rintro e w6 ⟨rfl, hb6⟩
          rw [HSG.out]
          generalize (if x < y then (1 : Int) else -1) = g at HE2 ⊢
          have hb7 : Below w5.heap.size w5 (w6.alloc (.cells #[.int .i64 g] 3)) := below_alloc hb6 _
          have HD7 := Aside0.mk (And.intro (HD5.out.1.below hb7) (And.intro (HD5.out.2.1.below hb7) HD5.out.2.2))
          have HB7 := Aside0.mk (HB5.out.trans (hb7.mono HB5.out.size))
          clear hb6 hb7 yc5
          go_wp2_with (at_builtin; refine Aside0.out ?_)
          refine ⟨?_⟩
          refine wpList_append_OwnI 22 und22 rfl _ _ rfl w1.heap.size v2 S [g] rfl HD7.out.2.1 ⟨w6.heap.size, 0, none⟩ 1 1 rfl rfl (one_cell w6 g 3) (by have := HDL.out; omega) HB7.out.size ?_
          intro v2' w8 hO2 hb8 hg8 ho8
          have hO1 := HD7.out.1.grown hg8 (fun k e h => HD7.out.2.2 k e h)
          have hap : ∀ k, v1'.ownBlock = some k → v2'.ownBlock ≠ some k := fun k e h => by
           rcases ho8 with h5 | h5
           · exact HD7.out.2.2 k e (h5 ▸ h)
           · have := (HD7.out.1.lt k e).2
             rw [h5] at h
             have := Option.some.inj h
             omega
          have HD8 := Aside0.mk (And.intro hO1 (And.intro hO2 hap))
          have HB8 := Aside0.mk (HB7.out.trans hb8)
          clear hO1 hb8 hg8 ho8 hO2 hap HD7 HB7 HD5 HB5
          go_wp2
          refine ⟨⟨i + 1, v1', v2', rfl, rfl, by first | rfl | exact congrArg _ HJ1.out, ⟨HIL.out⟩, ⟨by rw [HE1.out, HE2.out]; exact HD8.out⟩, HB8⟩, ?_⟩
          have := HIL.out
          first | (show a.length - ((i : Int) + 1).toNat < a.length - ((i : Int)).toNat; omega) | (rw [HJ1.out]; show a.length - (((i + 1 : Nat) : Int)).toNat < a.length - ((i : Int)).toNat; omega)
      · have hd1 : decide ((i : Int) < (a.length : Int)) = false := decide_eq_false (by omega)
        obtain rfl : i = a.length := by have := HI.out; omega
        have HD1 := Aside0.mk (show OwnI wr w1.heap.size v1 (dfI (pairsL a b)) ∧ OwnI wr w1.heap.size v2 (sgI (pairsL a b)) by
         have h1 := HD.out.1
         have h2 := HD.out.2.1
         rw [List.take_of_length_le (by rw [HZL.out]; exact Nat.le_refl _)] at h1 h2
         exact ⟨h1, h2⟩)
        have HDL := Aside0.mk (show (dfI (pairsL a b)).length ≤ 16 ∧ (dfI (pairsL a b)).length = (sgI (pairsL a b)).length by
         have h1 := dfI_len (pairsL a b)
         have := HZL.out
         have := HL.out.2
         omega)
        have HSI := Aside0.mk (sgI_in (pairsL a b))
        have HRI := Aside0.mk (ranks_in (dfI (pairsL a b)) (by have := HDL.out; omega))
        have HPS := Aside0.mk (show psum a b = dotI (sgI (pairsL a b)) (ranksI (dfI (pairsL a b))) from rfl)
        have HPC := Aside0.mk (show pchance a b = lowI ((allS (ranksI (dfI (pairsL a b)))).countP fun x => decide (farI (psum a b) 0 ≤ farI x 0)) (2 ^ (dfI (pairsL a b)).length) from rfl)
        generalize psum a b = P at HPS HPC HQ
        generalize pchance a b = C at HPC HQ
        generalize dfI (pairsL a b) = D at HD1 HDL HRI HPS HPC
        generalize sgI (pairsL a b) = S at HD1 HDL HSI HPS
        obtain ⟨A5, c5, rfl, hc5, hC5⟩ := Kd.R_reads HD1.out.1.R
        obtain ⟨A7, c7, rfl, hc7, hC7⟩ := Kd.R_reads HD1.out.2.R
        have HC5 := Aside0.mk hC5
        have HC7 := Aside0.mk hC7
        clear hC5 hC7 HD1 HD
        have HKR := Aside0.mk ((HBR.out.block _ (blk_lt2 HK1.out)).trans HK1.out)
        go_wp2_with fail
        refine (ranks_calls A5 c5 D _ HC5.out hc5 (by have := HDL.out; omega)).mono ?_
        rintro e w3 ⟨v, rfl, hv, hb3⟩
        obtain ⟨A6, c6, rfl, hc6, hC6⟩ := Kd.R_reads hv
        have HC6 := Aside0.mk hC6
        have HC73 := Aside0.mk (Kd.C_below HC7.out hb3)
        have HW3 := Aside0.mk (HWR.out.trans (hb3.mono HWR.out.size))
        have HK3 := Aside0.mk (blk_below2 hb3 HKR.out)
        clear hv hC6 hb3 HC7 HC5 HKR HBR
        have HNL := Aside0.mk (show (ranksI D).length ≤ 16 ∧ (ranksI D).length = S.length ∧ (ranksI D).length = D.length by have := HRI.out.2; have := HDL.out; omega)
        generalize ranksI D = rs at HC6 HRI HPS HPC HNL hc6 ⊢
        go_wp2
        have HB3 := Aside0.mk (Below.refl w3.heap.size w3)
        go_loopw [4, 65] (fun s4 s65 wr => ∃ k : Nat, s4 = .int .i64 (dotI (S.take k) (rs.take k)) ∧ s65 = .int .i64 k ∧ Aside0 (k ≤ rs.length) ∧ Aside0 (Below w3.heap.size w3 wr)) (fun _ s65 _ => rs.length - (intOf s65).toNat)
        case atStart => exact ⟨0, rfl, rfl, ⟨Nat.zero_le _⟩, HB3⟩
        case round =>
         clear HB3
         obtain ⟨k, rfl, rfl, HK, HBK⟩ := hrel
         rename World => wk
         by_cases hlt : k < rs.length
         · have hd2 : decide ((k : Int) < (rs.length : Int)) = true := decide_eq_true (by omega)
           have hkS : k < S.length := by have := HNL.out; omega
           have p1 : (0 : Int) ≤ (k : Int) := by omega
           have p2 : (k : Int) < (rs.length : Int) := by omega
           have p3 : (k : Int) < (S.length : Int) := by omega
           obtain ⟨rdd, hrd, rc⟩ := Kd.at_int (Kd.C_below HC6.out HBK.out) (k : Int) p1 p2
           cases hrd
           obtain ⟨sdd, hsd, sc⟩ := Kd.at_int (Kd.C_below HC73.out HBK.out) (k : Int) p1 p3
           cases hsd
           rw [Int.toNat_natCast] at rc sc
           have HT := Aside0.mk (dotI_take S rs k hkS hlt)
           have hs := HSI.out _ (rd_mem S hkS)
           have hr := HRI.out.1 _ (rd_mem rs hlt)
           have hdi := dotI_in 1000 (S.take k) (rs.take k) (fun x hx => HSI.out x (List.mem_of_mem_take hx)) (fun x hx => HRI.out.1 x (List.mem_of_mem_take hx)) (by omega)
           have hkl : (rs.take k).length ≤ 16 := by rw [List.length_take]; have := HNL.out; omega
           have hpr : -1000 ≤ rd S (k : Int) * rd rs (k : Int) ∧ rd S (k : Int) * rd rs (k : Int) ≤ 1000 := by
            rcases hs with h | h <;> rw [h] <;> omega
           have HW := Aside0.mk (And.intro (w64' (rd S (k : Int) * rd rs (k : Int)) (by omega) (by omega)) (w64' (dotI (S.take k) (rs.take k) + rd S (k : Int) * rd rs (k : Int)) (by omega) (by omega)))
           have HJ1 := Aside0.mk (show wrap64 ((k : Int) + 1) = ((k + 1 : Nat) : Int) by have := HNL.out; rw [w64' _ (by omega) (by omega)]; rfl)
           have HKL := Aside0.mk hlt
           generalize dotI (S.take k) (rs.take k) = q at HT HW
           generalize rd S (k : Int) = u at sc HT HW
           generalize rd rs (k : Int) = v at rc HT HW
           clear hs hr hdi hkl hpr hlt hkS
           have e1 := HW.out.1
           have e2 := HW.out.2
           go_wp2
           refine ⟨⟨k + 1, ?_, by first | rfl | exact congrArg _ HJ1.out, ⟨HKL.out⟩, HBK⟩, ?_⟩
           · rw [HT.out]
             first | rfl | (rw [HW.out.1, HW.out.2]) | (rw [HW.out.2])
           · have := HKL.out
             first | (show rs.length - ((k : Int) + 1).toNat < rs.length - ((k : Int)).toNat; omega) | (rw [HJ1.out]; show rs.length - (((k + 1 : Nat) : Int)).toNat < rs.length - ((k : Int)).toNat; omega)
         · have hd2 : decide ((k : Int) < (rs.length : Int)) = false := decide_eq_false (by omega)
           obtain rfl : k = rs.length := by have := HK.out; omega
           rw [List.take_length, List.take_of_length_le (show S.length ≤ rs.length by have := HNL.out; omega), ← HPS.out]
           have HPI := Aside0.mk (show -1000000 ≤ P ∧ P ≤ 1000000 by
            have h1 := dotI_in 1000 S rs HSI.out HRI.out.1 (by omega)
            rw [← HPS.out] at h1
            have := HNL.out
            omega)
           clear hlt hd2
           go_wp2_with fail
           refine (countS_calls A6 c6 rs _ (Kd.C_below HC6.out HBK.out) hc6 (by have := HNL.out; omega) HRI.out.1).mono ?_
           rintro e w9 ⟨m, n, rfl, hM, hn, hm, hb9⟩
           have HM := Aside0.mk hM
           have HW9 := Aside0.mk (below_then HW3.out HW3.out.size (below_then HBK.out HBK.out.size hb9))
           have HK9 := Aside0.mk (blk_below2 hb9 (blk_below2 HBK.out HK3.out))
           clear hM hn hm hb9
           have HU := Aside0.mk (allS_sums rs HRI.out.1)
           have hws := wS_ws rs HRI.out.1 rs.length (Nat.le_refl _)
           rw [List.take_length] at hws
           have HWS := Aside0.mk hws
           have HPW := Aside0.mk (show 2 ^ rs.length ≤ 4611686018427387904 from Nat.le_trans (Nat.pow_le_pow_right (by omega) (show rs.length ≤ 16 by have := HNL.out; omega)) (by decide))
           clear hws
           go_wp2_with fail
           refine (chance_calls (kS rs.length) rfl (fun _ => rfl) (fun k hk => by have := hk.1; have := HNL.out; omega) m n (wS rs) 0 P (sumsU rs.length) _ _ _ HM.out (sumsU_nodup _) (wS_sup rs _ HU.out) (fun k hk => okS_of_ws HWS.out (by have := HNL.out; omega) hk) HWS.out.pos (wS_all rs _ (sumsU_nodup _) HU.out) (wS_sum rs _ (sumsU_nodup _) HU.out _) (Nat.pow_pos (by omega)) HPW.out (by omega) HPI.out).mono ?_
           rintro e w10 ⟨rfl, hb10⟩
           have HW10 := Aside0.mk (HW9.out.trans (hb10.mono HW9.out.size))
           have hk4 := blk_below2 hb10 HK9.out
           have s0 : w10.cell? ⟨w.heap.size, 0, none⟩ = some (.int .i64 0) := (blk_cell hk4 0).trans rfl
           have s1 : w10.cell? ⟨w.heap.size, 1, none⟩ = some (.int .i64 0) := (blk_cell hk4 1).trans rfl
           have f0 := blk_frozen hk4 0
           have f1 := blk_frozen hk4 1
           have HK4 := Aside0.mk hk4
           clear hb10 hk4
           rw [HNL.out.2.2, ← HPC.out, HQ.out.2.1, HQ.out.2.2, HQ.out.1]
           go_wp2
           refine bodyPost_ret (results_list (rs := [.tmp 4, .cell 5 34, .tmp 6]) rfl (by simp) (.tmp (.cell w.heap.size 34 #[.int .i64 r2, .int .i64 r3] (0, 0) _ rfl (by refine blk_put (cs := #[.int .i64 r2, .int .i64 0]) ?_ 1 _ rfl; refine blk_put (cs := #[.int .i64 0, .int .i64 0]) ?_ 0 _ rfl; exact HK4.out) Try.underlying34 rfl (by kernel_rfl) (.tmp .nil)))) rfl ?_
           exact ⟨rfl, below_set (below_set HW10.out (Nat.le_refl _)) (Nat.le_refl _)⟩
   · rw [if_neg hl] at h
     obtain ⟨g1, h2⟩ := Prod.mk.inj h
     obtain ⟨g2, h3⟩ := Prod.mk.inj h2
     obtain ⟨g3, g4⟩ := Prod.mk.inj h3
     clear h h2 h3
     subst g1 g2 g3 g4
     have z1 : ((a.length : Int) == (b.length : Int)) = false := beq_false_of_ne (by omega)
     have z2 : ((a.length : Int) != (b.length : Int)) = true := by simp; omega
     have z3 : (a.length == b.length) = false := beq_false_of_ne hl
     have z4 : decide ((a.length : Int) = (b.length : Int)) = false := decide_eq_false (by omega)
     clear h0
     go_enter Try.func26, Try.ntmps26
     go_wp2_with fail
     refine hcall.mono ?_
     clear hcall
     rintro e w1 ⟨rfl, hb1⟩
     have HW1 := Aside0.mk (below_then HB0.out HB0.out.size hb1)
     have hk4 := blk_below2 hb1 HK0.out
     have s0 : w1.cell? ⟨w.heap.size, 0, none⟩ = some (.int .i64 0) := (blk_cell hk4 0).trans rfl
     have s1 : w1.cell? ⟨w.heap.size, 1, none⟩ = some (.int .i64 0) := (blk_cell hk4 1).trans rfl
     have f0 := blk_frozen hk4 0
     have f1 := blk_frozen hk4 1
     have HK4 := Aside0.mk hk4
     clear hb1 hk4
     go_wp2
     refine bodyPost_ret (results_list (rs := [.tmp 4, .cell 5 34, .tmp 6]) rfl (by simp) (.tmp (.cell w.heap.size 34 #[.int .i64 0, .int .i64 0] (0, 0) _ rfl (by refine blk_put (cs := #[.int .i64 0, .int .i64 0]) ?_ 1 _ rfl; refine blk_put (cs := #[.int .i64 0, .int .i64 0]) ?_ 0 _ rfl; exact HK4.out) Try.underlying34 rfl (by kernel_rfl) (.tmp .nil)))) rfl ?_
     exact ⟨rfl, below_set (below_set HW1.out (Nat.le_refl _)) (Nat.le_refl _)⟩
 · rw [if_neg h0] at h
   obtain ⟨g1, h2⟩ := Prod.mk.inj h
   obtain ⟨g2, h3⟩ := Prod.mk.inj h2
   obtain ⟨g3, g4⟩ := Prod.mk.inj h3
   clear h h2 h3
   subst g1 g2 g3 g4
   have z1 : (bothI a b == 0) = false := beq_false_of_ne h0
   have z2 : (bothI a b != 0) = true := by simp [h0]
   have z3 : decide (bothI a b = 0) = false := decide_eq_false h0
   generalize bothI a b = q at z1 z2 z3 h0 hcall ⊢
   go_enter Try.func26, Try.ntmps26
   go_wp2_with fail
   refine hcall.mono ?_
   clear hcall
   rintro e w1 ⟨rfl, hb1⟩
   have HW1 := Aside0.mk (below_then HB0.out HB0.out.size hb1)
   have hk4 := blk_below2 hb1 HK0.out
   have s0 : w1.cell? ⟨w.heap.size, 0, none⟩ = some (.int .i64 0) := (blk_cell hk4 0).trans rfl
   have s1 : w1.cell? ⟨w.heap.size, 1, none⟩ = some (.int .i64 0) := (blk_cell hk4 1).trans rfl
   have f0 := blk_frozen hk4 0
   have f1 := blk_frozen hk4 1
   have HK4 := Aside0.mk hk4
   clear hb1 hk4
   go_wp2
   refine bodyPost_ret (results_list (rs := [.tmp 4, .cell 5 34, .tmp 6]) rfl (by simp) (.tmp (.cell w.heap.size 34 #[.int .i64 0, .int .i64 0] (0, 0) _ rfl (by refine blk_put (cs := #[.int .i64 0, .int .i64 0]) ?_ 1 _ rfl; refine blk_put (cs := #[.int .i64 0, .int .i64 0]) ?_ 0 _ rfl; exact HK4.out) Try.underlying34 rfl (by kernel_rfl) (.tmp .nil)))) rfl ?_
   exact ⟨rfl, below_set (below_set HW1.out (Nat.le_refl _)) (Nat.le_refl _)⟩

end Go.Proofs.Ythddeillkdediaa.H
