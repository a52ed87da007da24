/- above: the pairs whose distance is above a height. -/
import Derived.RangeFuncNested
import Derived.RangeFuncBound
import Derived.RangeFuncCalls
import Derived.RangeFuncLeaves
import Derived.RangeFuncBox
import Derived.RangeFuncWrites
import Derived.Shelf.Abstract
import Derived.Shelf.RegionOpen
import Derived.WalkKit
import Derived.OwnWalkIn
import Derived.TacticsInMore
import Derived.LoopNIn
import Derived.LoopIn
import Derived.Maps.AppendAt
import Derived.Carry
import Derived.Test.YtkocigldchiifaaH5
namespace Go.Proofs.Ytkocigldchiifaa.H
open Go.RowKit Go.Proofs.YtkocigldchiifaaW.PrintWords Go.Proofs.YtkocigldchiifaaW.PrintLast Go.Proofs.YtkocigldchiifaaW.PrintMore
open Go.Shelf Go.Proofs.Ytkocigldchiifaa.QA
attribute [local go_sem] Oper.semAt_some
set_option linter.unusedVariables false
set_option linter.unusedSimpArgs false


def abvRow (a b : List S59) (h : Int) (i m : Nat) : List S25 := ((List.range m).map fun k : Nat => (⟨(i : Int), (k : Int)⟩ : S25)).filter fun q => decide (h < farD (rd_T59 a q.f0) (rd_T59 b q.f1))
def abvTo (a b : List S59) (h : Int) (n : Nat) : List S25 := (List.range n).flatMap fun i => abvRow a b h i b.length
/-- The pairs whose distance is above a height. -/
def aboveOf (a b : List S59) (h : Int) : List S25 := abvTo a b h a.length
theorem abvRow_succ (a b : List S59) (h : Int) (i m : Nat) : abvRow a b h i (m + 1) = abvRow a b h i m ++ (if h < farD (rd_T59 a i) (rd_T59 b m) then [⟨(i : Int), (m : Int)⟩] else []) := by
 unfold abvRow
 rw [List.range_succ, List.map_append, List.filter_append]
 congr 1
 simp [List.filter_cons]
theorem abvTo_succ (a b : List S59) (h : Int) (n : Nat) : abvTo a b h (n + 1) = abvTo a b h n ++ abvRow a b h n b.length := by
 unfold abvTo
 rw [List.range_succ, List.flatMap_append]
 simp
theorem abvRow_pre (a b : List S59) (h : Int) (i : Nat) {m m' : Nat} (hm : m ≤ m') : abvRow a b h i m <+: abvRow a b h i m' := by
 induction hm with
 | refl => exact List.prefix_refl _
 | step _ ih => rw [abvRow_succ]; exact ih.trans (List.prefix_append _ _)
theorem abvTo_pre (a b : List S59) (h : Int) {m m' : Nat} (hm : m ≤ m') : abvTo a b h m <+: abvTo a b h m' := by
 induction hm with
 | refl => exact List.prefix_refl _
 | step _ ih => rw [abvTo_succ]; exact ih.trans (List.prefix_append _ _)
theorem abv_pre (a b : List S59) (h : Int) {n m : Nat} (hn : n < a.length) (hm : m ≤ b.length) : abvTo a b h n ++ abvRow a b h n m <+: aboveOf a b h := by
 refine List.IsPrefix.trans ?_ (abvTo_pre a b h (show n + 1 ≤ a.length from hn))
 rw [abvTo_succ]
 exact (List.prefix_append_right_inj _).2 (abvRow_pre a b h n hm)
theorem mem_above (a b : List S59) (h : Int) (q : S25) : q ∈ aboveOf a b h ↔ hasP a b q.f0 q.f1 = true ∧ h < farD (rd_T59 a q.f0) (rd_T59 b q.f1) := by
 unfold aboveOf abvTo abvRow
 rw [hasP_iff]
 simp only [List.mem_flatMap, List.mem_range, List.mem_filter, List.mem_map, decide_eq_true_iff]
 constructor
 · rintro ⟨i, hi, ⟨k, hk, rfl⟩, hf⟩
   exact ⟨⟨by simp; omega, by simp; omega⟩, hf⟩
 · rintro ⟨⟨h1, h2⟩, hf⟩
   obtain ⟨x, y⟩ := q
   simp only at h1 h2 hf ⊢
   refine ⟨x.toNat, by omega, ⟨y.toNat, by omega, ?_⟩, hf⟩
   rw [Int.toNat_of_nonneg h1.1, Int.toNat_of_nonneg h2.1]
/-- What the body of a loop over these pairs keeps. -/
structure KpA (n₀ B1 B2 : Nat) (W W' : World) : Prop where
 below : Below n₀ W W'
 b1 : ∀ (cs : Array Value) (t : TypeId) (fz : Nat × Nat), W.heap[B1]? = some (Obj.cells cs t fz) → W'.heap[B1]? = some (Obj.cells cs t fz)
 b2 : ∀ (cs : Array Value) (t : TypeId) (fz : Nat × Nat), W.heap[B2]? = some (Obj.cells cs t fz) → W'.heap[B2]? = some (Obj.cells cs t fz)
theorem KpA.trans' {n₀ B1 B2 : Nat} {X Y Z : World} (h : KpA n₀ B1 B2 X Y) (k : KpA n₀ B1 B2 Y Z) : KpA n₀ B1 B2 X Z :=
 ⟨h.below.trans k.below, fun cs t fz hg => k.b1 cs t fz (h.b1 cs t fz hg), fun cs t fz hg => k.b2 cs t fz (h.b2 cs t fz hg)⟩
theorem KpA.putObj {n₀ B1 B2 : Nat} {w : World} (hn : n₀ ≤ w.heap.size) (W : World) (l : Nat) (o o' : Obj) (hl : w.heap.size ≤ l) (h : W.heap[l]? = some o) (hc : o.isCells = false) (hw : o.isWalk = false) : KpA n₀ B1 B2 W (W.putObj l o') := by
 have hfar : ∀ (g : Nat) (cs : Array Value) (t : TypeId) (fz : Nat × Nat), W.heap[g]? = some (Obj.cells cs t fz) → (W.putObj l o').heap[g]? = some (Obj.cells cs t fz) := fun g cs t fz hg => by
  rw [World.putObj_heap_other (fun e => by subst e; rw [h] at hg; cases hg; cases hc)]; exact hg
 exact ⟨belowK_b (w := w) hn W l o o' hl h hc hw, fun cs t fz hg => hfar _ cs t fz hg, fun cs t fz hg => hfar _ cs t fz hg⟩
theorem KpA.of_below {n₀ B1 B2 : Nat} {W W' : World} (hb : Below W.heap.size W W') (hn : n₀ ≤ W.heap.size) : KpA n₀ B1 B2 W W' :=
 ⟨hb.mono hn, fun _ _ _ hg => (hb.block _ (Array.getElem?_eq_some_iff.1 hg).1).trans hg, fun _ _ _ hg => (hb.block _ (Array.getElem?_eq_some_iff.1 hg).1).trans hg⟩
set_option maxRecDepth 100000 in
/-- (*table).above: its arguments are boxed, the function value captures the boxes. -/
theorem above_in (n : Nat) (g : Nat) (h : Int) (w : World) :
    CallsIn Fence.wide n Try.prog 55 #[.pointer (some ⟨g, 0, none⟩), .int .i64 h] w fun e w' =>
      e = .returned (.func (.func 76) #[] #[.pointer (some ⟨w.heap.size, 0, none⟩), .pointer (some ⟨w.heap.size + 1, 0, none⟩)]) ∧
      w' = (w.alloc (.cells #[.pointer (some ⟨g, 0, none⟩)] 80)).alloc (.cells #[.int .i64 h] 3) := by
  have hu25 := Try.underlying25
  refine callsIn_of_wp Try.func55 rfl trivial ?_ rfl
  simp only [Try.ntmps55, List.size_toArray, List.length_cons, List.length_nil, Nat.reduceAdd, Nat.reduceSub, Array.replicate_succ, Array.replicate_zero, List.push_toArray, List.append_toArray, List.nil_append, List.cons_append]
  gi_wp2
  go_ret
  exact ⟨rfl, rfl⟩
def above7_T : Bool × List (List Nat × List Nat) := (true, [([], []), ([], []), ([0, 1], [0, 1]), ([], []), ([2, 3], [2, 3]), ([4, 2], [4]), ([5], [5]), ([5], [5]), ([6, 7, 5, 5], [5, 6, 7]), ([8, 5], [5, 8]), ([5, 9], [5, 9])])
def above7_B : List Nat := [0, 0, 3, 0, 15, 31, 63, 63, 255, 511, 1023]
theorem above7_tab : rtab .any (opsOf Try.f76 7) = above7_T := by kernel_rfl
theorem above7_bits : waitsOk above7_T.2 above7_B = true := by kernel_rfl
theorem yield_bool {e : Ending} {A B : Prop} (h : (e = .returned (.bool true) ∧ A) ∨ (e = .returned (.bool false) ∧ B)) : ∃ q, e = .returned (.bool q) ∧ (q = true → A) ∧ (q = false → B) := by
 rcases h with ⟨h1, h2⟩ | ⟨h1, h2⟩
 · exact ⟨true, h1, fun _ => h2, fun h => by cases h⟩
 · exact ⟨false, h1, (fun h => by cases h), fun _ => h2⟩
/-- The state of the iterator's loops. -/
structure Ab (J : List S25 → World → Prop) (n₀ : Nat) (W : World) (Bt Bh g : Nat) (hh : Int) (pre : List S25) (wr : World) : Prop where
 j : J pre wr
 low : Below n₀ W wr
 bt : wr.heap[Bt]? = some (.cells #[.pointer (some ⟨g, 0, none⟩)] 80 (0, 0))
 bh : wr.heap[Bh]? = some (.cells #[.int .i64 hh] 3 (0, 0))
section
variable {J : List S25 → World → Prop} {n₀ : Nat} {W wr w2 W3 : World} {Bt Bh g : Nat} {hh : Int} {pre pre' : List S25}
theorem Ab.below (h : Ab J n₀ W Bt Bh g hh pre wr) (hJ : AbidesFrom W.heap.size J) (hn : n₀ ≤ W.heap.size) (hb : Below wr.heap.size wr w2) : Ab J n₀ W Bt Bh g hh pre w2 :=
 ⟨hJ _ _ _ none h.j (grown_of_below hb none) (fun r e => by cases e), h.low.trans (hb.mono (Nat.le_trans hn h.low.size)), blk_below h.bt hb, blk_below h.bh hb⟩
theorem Ab.step (h : Ab J n₀ W Bt Bh g hh pre w2) (hj : J pre' W3) (hk : KpA n₀ Bt Bh w2 W3) : Ab J n₀ W Bt Bh g hh pre' W3 := ⟨hj, h.low.trans hk.below, hk.b1 _ _ _ h.bt, hk.b2 _ _ _ h.bh⟩
end
set_option maxHeartbeats 4000000 in
set_option maxRecDepth 100000 in
/-- (*table).above$1 -/
theorem above1_in (n : Nat) (hn : 1 ≤ n) (lp Bt Bh g n₀ : Nat) (a b : List S59) (hh : Int) (hR : Rolls a b) (J Jx : List S25 → World → Prop)
    (hY : ∀ pre x W, pre ++ [x] <+: aboveOf a b hh → J pre W → YieldAt Fence.wide (n - 1) Try.prog lp #[.agg #[.int .i64 x.f0, .int .i64 x.f1]] W fun e W' =>
      (e = .returned (.bool true) ∧ J (pre ++ [x]) W' ∧ KpA n₀ Bt Bh W W') ∨ (e = .returned (.bool false) ∧ Jx (pre ++ [x]) W'))
    (W : World) (hJ : AbidesFrom W.heap.size J)
    (htb : W.heap[Bt]? = some (.cells #[.pointer (some ⟨g, 0, none⟩)] 80 (0, 0))) (hth : W.heap[Bh]? = some (.cells #[.int .i64 hh] 3 (0, 0)))
    (hT : ∀ W', Below n₀ W W' → Tb W' g a b) (hn0 : n₀ ≤ W.heap.size) (h0 : J [] W) :
    CallsIn Fence.wide n Try.prog 76 #[.func (.yield lp) #[] #[], .pointer (some ⟨Bt, 0, none⟩), .pointer (some ⟨Bh, 0, none⟩)] W fun e W' => (∃ v, e = .returned v) ∧
      ((∃ ys, ys = aboveOf a b hh ∧ J ys W') ∨ (∃ pre, pre <+: aboveOf a b hh ∧ Jx pre W')) := by
  have HR := Aside0.mk hR
  have HY := Aside0.mk hY
  have HJ := Aside0.mk hJ
  have HT := Aside0.mk hT
  have HN := Aside0.mk hn0
  have HJ0 := Aside0.mk h0
  have hu25 := Try.underlying25
  have HTB := Aside0.mk htb
  have HTH := Aside0.mk hth
  have hg := hT W (Below.refl _ _)
  obtain ⟨A0, c0, A1, c1, hgt, hCa, hCb⟩ := hg
  have cg0 : W.cell? ⟨g, 0, none⟩ = some (.slice A0 a.length c0) := (blk_cell hgt 0).trans rfl
  have ct : W.cell? ⟨Bt, 0, none⟩ = some (.pointer (some ⟨g, 0, none⟩)) := (blk_cell htb 0).trans rfl
  clear hY hJ hT htb hth hn0 h0 hCa hCb hgt
  refine callsIn_of_wp Try.func76 rfl trivial ?_ rfl
  simp only [Try.ntmps76, List.size_toArray, List.length_cons, List.length_nil, Nat.reduceAdd, Nat.reduceSub, Array.replicate_succ, Array.replicate_zero, List.push_toArray, List.append_toArray, List.nil_append, List.cons_append]
  gi_wp2
  gi_loopw [12] (fun s12 wr => ∃ m : Nat, m ≤ a.length ∧ s12 = .int .i64 m ∧ Aside0 (Ab J n₀ W Bt Bh g hh (abvTo a b hh m) wr)) (fun s12 _ => a.length - (intOf s12).toNat)
  case atStart => exact ⟨0, by omega, rfl, ⟨⟨HJ0.out, Below.refl _ _, HTB.out, HTH.out⟩⟩⟩
  case round =>
    clear HJ0 HTB HTH ct cg0
    obtain ⟨m, hm, rfl, HA⟩ := hrel
    have hal := HR.out.ha
    have hbl := HR.out.hb
    by_cases hlt : m < a.length
    · have hdec : decide ((m : Int) < (a.length : Int)) = true := decide_eq_true (by omega)
      obtain ⟨A0', c0', A1', c1', hgt, -, -⟩ := HT.out wr HA.out.low
      have cg1 : wr.cell? ⟨g, 1, none⟩ = some (.slice A1' b.length c1') := (blk_cell hgt 1).trans rfl
      have ct : wr.cell? ⟨Bt, 0, none⟩ = some (.pointer (some ⟨g, 0, none⟩)) := (blk_cell HA.out.bt 0).trans rfl
      clear hgt
      gi_wp2
      gi_loopw [20] (fun s20 wi => ∃ j : Nat, j ≤ b.length ∧ s20 = .int .i64 j ∧ Aside0 (Ab J n₀ W Bt Bh g hh (abvTo a b hh m ++ abvRow a b hh m j) wi)) (fun s20 _ => b.length - (intOf s20).toNat)
      case atStart => exact ⟨0, by omega, rfl, ⟨by simpa [abvRow] using HA.out⟩⟩
      case round =>
        clear ct cg1 HA hdec
        obtain ⟨j, hj, rfl, HA⟩ := hrel
        by_cases hlj : j < b.length
        · have hdec : decide ((j : Int) < (b.length : Int)) = true := decide_eq_true (by omega)
          have hcall := far_calls g a b (m : Int) (j : Int) ((wr.alloc (.cells #[.int .i64 (m : Int), .int .i64 (j : Int)] 25)).drew) ((HT.out wr HA.out.low).below (pw_below_drewN (below_alloc (Below.refl _ _) _) 1)) HR.out (by omega) (by omega) (by omega) (by omega)
          have hsu := abvRow_succ a b hh m j
          have hpr := abv_pre a b hh hlt (show j + 1 ≤ b.length from hlj)
          have ct : (wr.alloc (.cells #[.int .i64 (m : Int), .int .i64 (j : Int)] 25)).drew.cell? ⟨Bt, 0, none⟩ = some (.pointer (some ⟨g, 0, none⟩)) := (blk_cell (blk_below HA.out.bt (pw_below_drewN (below_alloc (Below.refl _ _) _) 1)) 0).trans rfl
          have ch : (wr.alloc (.cells #[.int .i64 (m : Int), .int .i64 (j : Int)] 25)).drew.cell? ⟨Bh, 0, none⟩ = some (.int .i64 hh) := (blk_cell (blk_below HA.out.bh (pw_below_drewN (below_alloc (Below.refl _ _) _) 1)) 0).trans rfl
          generalize hd : farD (rd_T59 a m) (rd_T59 b j) = d at hcall hsu
          have HC := Aside0.mk hcall
          have HS := Aside0.mk hsu
          have HPR := Aside0.mk hpr
          clear hcall hsu hpr hd
          by_cases hgt : hh < d
          · have hgb : decide (d > hh) = true := decide_eq_true hgt
            have hgc : decide (hh < d) = true := decide_eq_true hgt
            rw [if_pos hgt] at HS
            have HA1 := Aside0.mk (HA.out.below HJ.out HN.out (pw_below_drewN (below_alloc (Below.refl wr.heap.size wr) (.cells #[.int .i64 (m : Int), .int .i64 (j : Int)] 25)) 1))
            have HBX := Aside0.mk (blk_new wr (.cells #[.int .i64 (m : Int), .int .i64 (j : Int)] 25))
            gi_wp2
            gi_region_with (first | (refine ⟨trivial, ?_⟩; gi_at_call 47; refine (callsIn_wide.2 HC.out).mono ?_; rintro e w2 ⟨rfl, hb2⟩; have HA2 := Aside0.mk (HA1.out.below HJ.out HN.out hb2); have ch : w2.cell? ⟨Bh, 0, none⟩ = some (.int .i64 hh) := (blk_cell HA2.out.bh 0).trans rfl; have bx := blk_below (blk_below HBX.out (pw_below_drewN (Below.refl _ _) 1)) hb2; have h60 : w2.cell? ⟨wr.heap.size, 0, none⟩ = some (.int .i64 (m : Int)) := (blk_cell bx 0).trans rfl; have h61 : w2.cell? ⟨wr.heap.size, 1, none⟩ = some (.int .i64 (j : Int)) := (blk_cell bx 1).trans rfl; clear hb2 bx; obtain ⟨fn, tmps, assign, body, hy, hRY⟩ := HY.out (abvTo a b hh m ++ abvRow a b hh m j) ⟨(m : Int), (j : Int)⟩ w2 (by have hm := HPR.out; rw [HS.out, ← List.append_assoc] at hm; exact hm) HA2.out.j) | (refine hRY.mono ?_; rintro e W3 h3; obtain ⟨q, rfl, h4, h5⟩ := yield_bool h3; clear h3))
            all_goals
              have H4 := Aside0.mk h4
              have H5 := Aside0.mk h5
              clear h4 h5
              cases q with
              | true =>
                gi_wp2
                refine ⟨⟨j + 1, by omega, by go_num, ⟨?_⟩⟩, ?_⟩
                · rw [HS.out, ← List.append_assoc]
                  exact HA2.out.step (H4.out (by first | rfl | trivial)).1 (H4.out (by first | rfl | trivial)).2
                · simp [intOf]; omega
              | false =>
                gi_wp2
                refine bodyPost_ret (results_none rfl _ _ _) rfl ?_
                refine ⟨⟨_, rfl⟩, .inr ⟨_, ?_, H5.out (by first | rfl | trivial)⟩⟩
                have hm := HPR.out
                rw [HS.out, ← List.append_assoc] at hm
                exact hm
          · have hgb : decide (d > hh) = false := decide_eq_false hgt
            have hgc : decide (hh < d) = false := decide_eq_false hgt
            rw [if_neg hgt] at HS
            have HA1 := Aside0.mk (HA.out.below HJ.out HN.out (pw_below_drewN (below_alloc (Below.refl wr.heap.size wr) (.cells #[.int .i64 (m : Int), .int .i64 (j : Int)] 25)) 1))
            gi_wp2
            have KK := Aside0.mk (And.intro ct (And.intro ((blk_cell (blk_below (blk_new wr (.cells #[.int .i64 (m : Int), .int .i64 (j : Int)] 25)) (pw_below_drewN (Below.refl _ _) 1)) 0).trans rfl) (And.intro ((blk_cell (blk_below (blk_new wr (.cells #[.int .i64 (m : Int), .int .i64 (j : Int)] 25)) (pw_below_drewN (Below.refl _ _) 1)) 1).trans rfl) ch)) : _ ∧ (wr.alloc (.cells #[.int .i64 (m : Int), .int .i64 (j : Int)] 25)).drew.cell? ⟨wr.heap.size, 0, none⟩ = some (.int .i64 (m : Int)) ∧ (wr.alloc (.cells #[.int .i64 (m : Int), .int .i64 (j : Int)] 25)).drew.cell? ⟨wr.heap.size, 1, none⟩ = some (.int .i64 (j : Int)) ∧ _)
            clear ct ch
            refine (wpIn_wide (n := n)).2 ?_
            refine start_ (n := 11) (S := fun w' => w'.cell? ⟨Bt, 0, none⟩ = some (.pointer (some ⟨g, 0, none⟩)) ∧ w'.cell? ⟨wr.heap.size, 0, none⟩ = some (.int .i64 (m : Int)) ∧ w'.cell? ⟨wr.heap.size, 1, none⟩ = some (.int .i64 (j : Int)) ∧ w'.cell? ⟨Bh, 0, none⟩ = some (.int .i64 hh)) (ds := []) #[false, false, false, false, false, false, false, false, false, false, false] (by kernel_rfl) rfl rfl KK.out (fun hHeld => ?_)
            refine with_tabW above7_tab above7_bits (fun HT_ HW_ => ?_)
            refine take_ (i := 0) (N := some 26) (v := ?_) (a' := ?_) #[true, false, false, false, false, false, false, false, false, false, false] rfl rfl (take_ofW HT_.out HW_.out (by kernel_rfl)) (fun _ _ _ h => h) (Or.inl ⟨by rfl, ?_⟩) hHeld ?_ ?_
            rotate_left
            · rintro w' ⟨s0, s1, s2, s3⟩
              go_simp
              with_reducible rfl
            rotate_left
            · simp only [Act.put, List.setIfInBounds_toArray, List.set_cons_zero, List.set_cons_succ, i64_w, i32_w]
              rfl
            refine take_ (i := 1) (N := some 27) (v := ?_) (a' := ?_) #[true, true, false, false, false, false, false, false, false, false, false] rfl rfl (take_ofW HT_.out HW_.out (by kernel_rfl)) (fun _ _ _ h => h) (Or.inl ⟨by rfl, ?_⟩) hHeld ?_ ?_
            rotate_left
            · rintro w' ⟨s0, s1, s2, s3⟩
              go_simp
              with_reducible rfl
            rotate_left
            · simp only [Act.put, List.setIfInBounds_toArray, List.set_cons_zero, List.set_cons_succ, i64_w, i32_w]
              rfl
            refine take_ (i := 3) (N := some 29) (v := ?_) (a' := ?_) #[true, true, false, true, false, false, false, false, false, false, false] rfl rfl (take_ofW HT_.out HW_.out (by kernel_rfl)) (fun _ _ _ h => h) (Or.inl ⟨by rfl, ?_⟩) hHeld ?_ ?_
            rotate_left
            · rintro w' ⟨s0, s1, s2, s3⟩
              go_simp
              with_reducible rfl
            rotate_left
            · simp only [Act.put, List.setIfInBounds_toArray, List.set_cons_zero, List.set_cons_succ, i64_w, i32_w]
              rfl
            refine one_ (i := 2) (N := some 28) #[true, true, true, true, false, false, false, false, false, false, false] rfl rfl (one_of HT_.out (by kernel_rfl)) (by decide) (fun K hK => ?_)
            refine goes_ Try.func47 (by kernel_rfl) rfl #[.pointer (some ⟨g, 0, none⟩), .agg #[.int .i64 (m : Int), .int .i64 (j : Int)]] (by rfl) rfl rfl (by (try simp only [List.map_toArray, List.map_cons, List.map_nil]); first | done | rfl) ?_
            refine (HC.out).mono ?_
            rintro e w2 ⟨rfl, hbb⟩
            refine ⟨_, rfl, ?_⟩
            replace KK := Aside0.mk (And.intro (pw_cell_below hbb KK.out.1) (And.intro (pw_cell_below hbb KK.out.2.1) (And.intro (pw_cell_below hbb KK.out.2.2.1) (pw_cell_below hbb KK.out.2.2.2))))
            have HA2 := Aside0.mk (HA1.out.below HJ.out HN.out hbb)
            clear hbb
            refine hK.out _ _ KK.out (fun hHeld => ?_)
            clear hK K
            refine norm_ (a' := ?_) ?_ ?_
            rotate_left
            · show Act.put _ (some 28) _ = _
              simp only [Act.put, List.setIfInBounds_toArray, List.set_cons_zero, List.set_cons_succ, i64_w, i32_w]
              rfl
            refine take_ (i := 4) (N := some 30) (v := ?_) (a' := ?_) #[true, true, true, true, true, false, false, false, false, false, false] rfl rfl (take_ofW HT_.out HW_.out (by kernel_rfl)) (fun _ _ _ h => h) (Or.inl ⟨by rfl, ?_⟩) hHeld ?_ ?_
            rotate_left
            · rintro w' ⟨s0, s1, s2, s3⟩
              go_simp
              with_reducible rfl
            rotate_left
            · simp only [Act.put, List.setIfInBounds_toArray, List.set_cons_zero, List.set_cons_succ, i64_w, i32_w]
              rfl
            refine take_ (i := 5) (N := some 31) (v := ?_) (a' := ?_) #[true, true, true, true, true, true, false, false, false, false, false] rfl rfl (take_ofW HT_.out HW_.out (by kernel_rfl)) (fun _ _ _ h => h) (Or.inl ⟨by rfl, ?_⟩) hHeld ?_ ?_
            rotate_left
            · rintro w' ⟨s0, s1, s2, s3⟩
              go_simp
              with_reducible rfl
            rotate_left
            · simp only [Act.put, List.setIfInBounds_toArray, List.set_cons_zero, List.set_cons_succ, i64_w, i32_w]
              rfl
            refine take_ (i := 6) (N := some 32) (v := undef) (a' := ?_) #[true, true, true, true, true, true, true, false, false, false, false] rfl rfl (take_ofW HT_.out HW_.out (by kernel_rfl)) (fun _ _ _ h => h) (Or.inr ⟨by rfl, rfl⟩) hHeld ?_ ?_
            rotate_left
            · simp only [Act.put, List.setIfInBounds_toArray, List.set_cons_zero, List.set_cons_succ, i64_w, i32_w]
              rfl
            refine take_ (i := 7) (N := some 33) (v := undef) (a' := ?_) #[true, true, true, true, true, true, true, true, false, false, false] rfl rfl (take_ofW HT_.out HW_.out (by kernel_rfl)) (fun _ _ _ h => h) (Or.inr ⟨by rfl, rfl⟩) hHeld ?_ ?_
            rotate_left
            · simp only [Act.put, List.setIfInBounds_toArray, List.set_cons_zero, List.set_cons_succ, i64_w, i32_w]
              rfl
            refine take_ (i := 8) (N := some 34) (v := undef) (a' := ?_) #[true, true, true, true, true, true, true, true, true, false, false] rfl rfl (take_ofW HT_.out HW_.out (by kernel_rfl)) (fun _ _ _ h => h) (Or.inr ⟨by rfl, rfl⟩) hHeld ?_ ?_
            rotate_left
            · simp only [Act.put, List.setIfInBounds_toArray, List.set_cons_zero, List.set_cons_succ, i64_w, i32_w]
              rfl
            refine take_ (i := 9) (N := some 35) (v := undef) (a' := ?_) #[true, true, true, true, true, true, true, true, true, true, false] rfl rfl (take_ofW HT_.out HW_.out (by kernel_rfl)) (fun _ _ _ h => h) (Or.inr ⟨by rfl, rfl⟩) hHeld ?_ ?_
            rotate_left
            · simp only [Act.put, List.setIfInBounds_toArray, List.set_cons_zero, List.set_cons_succ, i64_w, i32_w]
              rfl
            refine take_ (i := 10) (N := some 36) (v := ?_) (a' := ?_) #[true, true, true, true, true, true, true, true, true, true, true] rfl rfl (take_ofW HT_.out HW_.out (by kernel_rfl)) (fun _ _ _ h => h) (Or.inl ⟨by rfl, ?_⟩) hHeld ?_ ?_
            rotate_left
            · rintro w' ⟨s0, s1, s2, s3⟩
              go_simp
              with_reducible rfl
            rotate_left
            · simp only [Act.put, List.setIfInBounds_toArray, List.set_cons_zero, List.set_cons_succ, i64_w, i32_w]
              rfl
            refine done_ (done_of HT_.out (by kernel_rfl)) ?_
            gi_wp2
            refine ⟨⟨j + 1, by omega, by go_num, ⟨?_⟩⟩, ?_⟩
            · rw [HS.out, List.append_nil]
              exact HA2.out
            · simp [intOf]; omega
        · have hdec : decide ((j : Int) < (b.length : Int)) = false := decide_eq_false (by omega)
          obtain rfl : j = b.length := by omega
          gi_wp2
          go_roundw
          case rel =>
            refine ⟨m + 1, by omega, by go_num, ⟨?_⟩⟩
            rw [abvTo_succ]
            exact HA.out
          case measure => simp [intOf]; omega
    · have hdec : decide ((m : Int) < (a.length : Int)) = false := decide_eq_false (by omega)
      obtain rfl : m = a.length := by omega
      gi_wp2
      go_end0
      exact ⟨⟨_, rfl⟩, .inl ⟨_, rfl, HA.out.j⟩⟩
/-- The pairs above a height, as an iterator. -/
theorem above_stops (n : Nat) (hn : 1 ≤ n) (Bt Bh g n₀ : Nat) (a b : List S59) (hh : Int) (hR : Rolls a b) (w : World)
    (htb : w.heap[Bt]? = some (.cells #[.pointer (some ⟨g, 0, none⟩)] 80 (0, 0))) (hth : w.heap[Bh]? = some (.cells #[.int .i64 hh] 3 (0, 0)))
    (hT : ∀ W', Below n₀ w W' → Tb W' g a b) (hn0 : n₀ ≤ w.heap.size) :
    SeqStopsK Fence.wide n Try.prog 76 #[.pointer (some ⟨Bt, 0, none⟩), .pointer (some ⟨Bh, 0, none⟩)] (fun x : {q : S25 // q ∈ aboveOf a b hh} => #[Value.agg #[.int .i64 x.1.f0, .int .i64 x.1.f1]]) (KpA n₀ Bt Bh) (fun ys => ys.map (·.1) = aboveOf a b hh) (fun pre => pre.map (·.1) <+: aboveOf a b hh) (aboveOf a b hh).length w := by
  intro lp J Jx W hW hJ hJx hY h0
  have hab : ∀ {J : List {q : S25 // q ∈ aboveOf a b hh} → World → Prop}, AbidesFrom W.heap.size J → AbidesFrom W.heap.size (fun (pre : List S25) X => ∃ ys : List {q : S25 // q ∈ aboveOf a b hh}, ys.map (·.1) = pre ∧ J ys X) := fun hJ s A B row hs hg hr => by
    obtain ⟨ys, h1, h2⟩ := hs
    exact ⟨ys, h1, hJ ys A B row h2 hg hr⟩
  refine (above1_in n hn lp Bt Bh g n₀ a b hh hR (fun pre X => ∃ ys : List {q : S25 // q ∈ aboveOf a b hh}, ys.map (·.1) = pre ∧ J ys X) (fun pre X => ∃ ys : List {q : S25 // q ∈ aboveOf a b hh}, ys.map (·.1) = pre ∧ Jx ys X) ?_ W (hab hJ) (blk_below htb hW) (blk_below hth hW)
    (fun W' hb => hT W' ((hW.mono hn0).trans hb)) (Nat.le_trans hn0 hW.size) ⟨[], rfl, h0⟩).mono ?_
  · rintro pre x X hp ⟨ys, hys, hJ1⟩
    have hx : x ∈ aboveOf a b hh := hp.subset (by simp)
    have hlen : ys.length < (aboveOf a b hh).length := by
     have := hp.length_le
     rw [← hys] at this
     simp at this
     omega
    obtain ⟨fn, tmps, assign, body, hy, hR⟩ := hY ys ⟨x, hx⟩ X hJ1 hlen
    refine ⟨fn, tmps, assign, body, hy, hR.mono ?_⟩
    rintro e W' (⟨h1, h2, h3⟩ | ⟨h1, h2⟩)
    · exact .inl ⟨h1, ⟨ys ++ [⟨x, hx⟩], by simp [hys], h2⟩, h3⟩
    · exact .inr ⟨h1, ys ++ [⟨x, hx⟩], by simp [hys], h2⟩
  · rintro e W' ⟨hv, (⟨pre, h1, ys, h2, h3⟩ | ⟨pre, h1, ys, h2, h3⟩)⟩
    · exact ⟨hv, .inl ⟨ys, h2.trans h1, h3⟩⟩
    · exact ⟨hv, .inr ⟨ys, (by show List.map _ ys <+: _; rw [h2]; exact h1), h3⟩⟩

end Go.Proofs.Ytkocigldchiifaa.H
