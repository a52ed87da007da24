/- slices.Reverse at pairs, on a row of one's own. -/
import Derived.RangeFuncNested
import Derived.RangeFuncBound
import Derived.RangeFuncCalls
import Derived.RangeFuncLeaves
import Derived.RangeFuncBox
import Derived.RangeFuncWrites
import Derived.Shelf.Abstract
import Derived.Shelf.RegionOpen
import Derived.WalkKit
import Derived.OwnWalkIn
import Derived.TacticsInMore
import Derived.LoopNIn
import Derived.LoopIn
import Derived.Maps.AppendAt
import Derived.Carry
import Derived.WalkSmall
import Derived.Test.YtkocigldchiifaaH6
import Derived.Test.YtkocigldchiifaaHE
namespace Go.Proofs.Ytkocigldchiifaa.H
open Go.RowKit Go.Proofs.YtkocigldchiifaaW.PrintWords Go.Proofs.YtkocigldchiifaaW.PrintLast Go.Proofs.YtkocigldchiifaaW.PrintMore
open Go.Shelf Go.Proofs.Ytkocigldchiifaa.QA
attribute [local go_sem] Oper.semAt_some
set_option linter.unusedVariables false
set_option linter.unusedSimpArgs false



def rev3_T : Bool × List (List Nat × List Nat) := (true, [([], []), ([], []), ([], []), ([], []), ([], []), ([], []), ([4, 5], [4, 5]), ([6], [6]), ([], []), ([], []), ([8, 9], [8, 9]), ([10], [10]), ([0, 1, 0, 1, 4, 5, 6, 7, 11], [0, 1]), ([12, 7, 0, 1, 4, 5, 6, 7, 11], [7, 12]), ([2, 3, 0, 1, 2, 3, 4, 5, 6, 7, 8, 9, 10, 11, 12, 13], [2, 3]), ([14, 11, 13, 0, 1, 2, 3, 4, 5, 6, 7, 8, 9, 10, 11, 12, 13], [11, 14])])
def rev3_B : List Nat := [0, 0, 0, 0, 0, 0, 48, 112, 0, 0, 768, 1792, 4083, 8179, 16383, 32767]
theorem rev3_tab : rtab .any (opsOf Try.f60 3) = rev3_T := by kernel_rfl
theorem rev3_bits : waitsOk rev3_T.2 rev3_B = true := by kernel_rfl

/-- Block g holds the pairs ys ahead of what follows. -/
def Rv (W : World) (g cap : Nat) (ys : List S25) : Prop := ∃ cur, W.heap[g]? = some (.cells cur 25 (0, 0)) ∧ cur.size = cap * 2 ∧ cur.toList.take (ys.length * 2) = cellsP ys
theorem cellsP_set (ys : List S25) (k : Nat) (p : S25) : cellsP (ys.set k p) = ((cellsP ys).set (2 * k) (.int .i64 p.f0)).set (2 * k + 1) (.int .i64 p.f1) := by
 induction ys generalizing k with
 | nil => simp [cellsP]
 | cons y ys ih =>
  cases k with
  | zero => simp [cellsP_cons]
  | succ k =>
   rw [List.set_cons_succ, cellsP_cons, cellsP_cons, ih k, show 2 * (k + 1) = 2 * k + 1 + 1 by omega, show 2 * k + 1 + 1 + 1 = (2 * k + 1) + 1 + 1 by omega]
   simp only [List.set_cons_succ]
theorem cellsP_get (ys : List S25) (k : Nat) (hk : k < ys.length) : (cellsP ys)[2 * k]? = some (.int .i64 (ys.getD k ⟨0, 0⟩).f0) ∧ (cellsP ys)[2 * k + 1]? = some (.int .i64 (ys.getD k ⟨0, 0⟩).f1) := by
 induction ys generalizing k with
 | nil => simp at hk
 | cons y ys ih =>
  cases k with
  | zero => simp [cellsP_cons]
  | succ k =>
   have := ih k (by simpa using hk)
   rw [cellsP_cons, show 2 * (k + 1) = 2 * k + 1 + 1 by omega]
   simpa using this
theorem Rv.cells {W : World} {g cap : Nat} {ys : List S25} (h : Rv W g cap ys) (k : Nat) (hk : k < ys.length) : W.cell? ⟨g, 2 * k, none⟩ = some (.int .i64 (ys.getD k ⟨0, 0⟩).f0) ∧ W.cell? ⟨g, 2 * k + 1, none⟩ = some (.int .i64 (ys.getD k ⟨0, 0⟩).f1) := by
 obtain ⟨cur, h1, h2, h3⟩ := h
 obtain ⟨h4, h5⟩ := cellsP_get ys k hk
 rw [← h3, List.getElem?_take_of_lt (by omega), Array.getElem?_toList] at h4 h5
 unfold World.cell?
 simp only [h1]
 exact ⟨h4, h5⟩
theorem Rv.set {W : World} {g cap : Nat} {ys : List S25} (h : Rv W g cap ys) (k : Nat) (p : S25) : Rv ((W.setCell ⟨g, 2 * k, none⟩ (.int .i64 p.f0)).setCell ⟨g, 2 * k + 1, none⟩ (.int .i64 p.f1)) g cap (ys.set k p) := by
 obtain ⟨cur, h1, h2, h3⟩ := h
 refine ⟨(cur.setIfInBounds (2 * k) (.int .i64 p.f0)).setIfInBounds (2 * k + 1) (.int .i64 p.f1), by simp [World.setCell, Array.getElem?_modify, h1], by simp [h2], ?_⟩
 rw [List.length_set, cellsP_set, ← h3]
 simp only [Array.toList_setIfInBounds, List.take_set]
theorem Rv.cells' {W : World} {g cap : Nat} {ys : List S25} (h : Rv W g cap ys) (k : Nat) (hk : k < ys.length) : W.cell? ⟨g, k * 2, none⟩ = some (.int .i64 (ys.getD k ⟨0, 0⟩).f0) ∧ W.cell? ⟨g, k * 2 + 1, none⟩ = some (.int .i64 (ys.getD k ⟨0, 0⟩).f1) := by
 rw [Nat.mul_comm]
 exact h.cells k hk
theorem Rv.set' {W : World} {g cap : Nat} {ys : List S25} (h : Rv W g cap ys) (k : Nat) (p : S25) : Rv ((W.setCell ⟨g, k * 2, none⟩ (.int .i64 p.f0)).setCell ⟨g, k * 2 + 1, none⟩ (.int .i64 p.f1)) g cap (ys.set k p) := by
 rw [Nat.mul_comm]
 exact h.set k p
theorem Rv.froz {W : World} {g cap : Nat} {ys : List S25} (h : Rv W g cap ys) (k : Nat) : W.frozen? ⟨g, k, none⟩ = false := by
 obtain ⟨cur, h1, h2, h3⟩ := h
 exact blk_frozen h1 k
theorem Rv.lt {W : World} {g cap : Nat} {ys : List S25} (h : Rv W g cap ys) : g < W.heap.size := by
 obtain ⟨cur, h1, h2, h3⟩ := h
 exact blk_lt2 h1
theorem Rv.drew {W : World} {g cap : Nat} {ys : List S25} (h : Rv W g cap ys) : Rv W.drew g cap ys := h
theorem Rv.frame {W : World} {g : Nat} (k : Nat) (u v : Value) (hlt : g < W.heap.size) : Fr W ((W.setCell ⟨g, k, none⟩ u).setCell ⟨g, k + 1, none⟩ v) g none :=
 ⟨rfl, rfl, rfl, by simp, fun j _ hne _ => (Below.heap_setCell _ _ _ _ hne).trans (Below.heap_setCell _ _ _ _ hne)⟩
theorem Fr.trans {w w1 w2 : World} {g : Nat} (h : Fr w w1 g none) (k : Fr w1 w2 g none) : Fr w w2 g none :=
 ⟨k.os.trans h.os, k.tape.trans h.tape, k.output.trans h.output, Nat.le_trans h.size k.size, fun j hj hne hr => (k.but j (Nat.lt_of_lt_of_le hj h.size) hne hr).trans (h.but j hj hne hr)⟩
theorem Fr.refl (w : World) (g : Nat) : Fr w w g none := ⟨rfl, rfl, rfl, Nat.le_refl _, fun _ _ _ _ => rfl⟩
def revTo (xs : List S25) : Nat → List S25
 | 0 => xs
 | i + 1 => ((revTo xs i).set i ((revTo xs i).getD (xs.length - 1 - i) ⟨0, 0⟩)).set (xs.length - 1 - i) ((revTo xs i).getD i ⟨0, 0⟩)
theorem revTo_len (xs : List S25) (i : Nat) : (revTo xs i).length = xs.length := by
 induction i with
 | zero => rfl
 | succ i ih => simp [revTo, ih]
theorem revTo_get (xs : List S25) (i : Nat) (hi : 2 * i ≤ xs.length) (k : Nat) (hk : k < xs.length) : (revTo xs i)[k]? = if k < i ∨ xs.length - 1 - i < k then xs[xs.length - 1 - k]? else xs[k]? := by
 induction i generalizing k with
 | zero =>
  rw [if_neg (by omega)]
  rfl
 | succ i ih =>
  have h1 := ih (by omega) i (by omega)
  have h2 := ih (by omega) (xs.length - 1 - i) (by omega)
  rw [if_neg (by omega)] at h1 h2
  have e1 : (revTo xs i).getD i ⟨0, 0⟩ = xs[i]'(by omega) := by rw [List.getD_eq_getElem?_getD, h1, List.getElem?_eq_getElem (by omega)]; rfl
  have e2 : (revTo xs i).getD (xs.length - 1 - i) ⟨0, 0⟩ = xs[xs.length - 1 - i]'(by omega) := by rw [List.getD_eq_getElem?_getD, h2, List.getElem?_eq_getElem (by omega)]; rfl
  unfold revTo
  rw [e1, e2, List.getElem?_set, List.getElem?_set, List.length_set, revTo_len]
  by_cases c1 : xs.length - 1 - i = k
  · subst c1
    rw [if_pos rfl, if_pos (by omega), if_pos (by omega), show xs.length - 1 - (xs.length - 1 - i) = i by omega, List.getElem?_eq_getElem (by omega)]
  · rw [if_neg c1]
    by_cases c2 : i = k
    · subst c2
      rw [if_pos rfl, if_pos (by omega), if_pos (by omega), List.getElem?_eq_getElem (by omega)]
    · rw [if_neg c2, ih (by omega) k hk]
      by_cases c3 : k < i ∨ xs.length - 1 - i < k
      · rw [if_pos c3, if_pos (by omega)]
      · rw [if_neg c3, if_neg (by omega)]
theorem revTo_end (xs : List S25) (i : Nat) (hi : 2 * i ≤ xs.length) (he : xs.length ≤ 2 * i + 1) : revTo xs i = xs.reverse := by
 apply List.ext_getElem?
 intro k
 by_cases hk : k < xs.length
 · rw [revTo_get xs i hi k hk, List.getElem?_reverse hk]
   split
   · rfl
   · rw [show xs.length - 1 - k = k by omega]
 · rw [List.getElem?_eq_none (by rw [revTo_len]; omega), List.getElem?_eq_none (by rw [List.length_reverse]; omega)]
set_option maxRecDepth 100000 in
set_option maxHeartbeats 1000000 in
/-- slices.Reverse -/
theorem reverse_calls (g cap : Nat) (xs : List S25) (w : World) (h : Rv w g cap xs) (hl : xs.length ≤ 100000) (h1 : 1 ≤ xs.length) :
  Calls Try.prog 60 #[.slice (some ⟨g, 0, none⟩) xs.length cap] w fun e w' => (∃ u, e = .returned u) ∧ Rv w' g cap xs.reverse ∧ Fr w w' g none := by
 have hu25 := Try.underlying25
 have HR := Aside0.mk h
 clear h
 go_enter Try.func60, Try.ntmps60
 go_wp2
 go_loopw [2, 3] (fun s2 s3 wr => ∃ i j : Nat, 2 * i ≤ xs.length ∧ i + j + 1 = xs.length ∧ s2 = .int .i64 i ∧ s3 = .int .i64 j ∧ Aside0 (Rv wr g cap (revTo xs i)) ∧ Aside0 (Fr w wr g none)) (fun s2 _ _ => xs.length - (intOf s2).toNat)
 case atStart => exact ⟨0, xs.length - 1, by omega, by omega, rfl, by go_num, ⟨HR.out⟩, ⟨Fr.refl _ _⟩⟩
 case round =>
  obtain ⟨i, j, hi, hj, rfl, rfl, HR1, HF⟩ := hrel
  by_cases hlt : 2 * i + 1 < xs.length
  · have hd : decide ((i : Int) < (j : Int)) = true := decide_eq_true (by omega)
    go_wp2
    have hle := revTo_len xs i
    have hjn : j < xs.length := by omega
    have hin : i < xs.length := by omega
    have hsu : revTo xs (i + 1) = ((revTo xs i).set i ((revTo xs i).getD j ⟨0, 0⟩)).set j ((revTo xs i).getD i ⟨0, 0⟩) := by
     rw [revTo, show xs.length - 1 - i = j by omega]
    obtain ⟨c1, c2⟩ := HR1.out.drew.cells' i (by omega)
    obtain ⟨c3, c4⟩ := HR1.out.drew.cells' j (by omega)
    generalize (revTo xs i).getD i ⟨0, 0⟩ = p at c1 c2 hsu
    generalize (revTo xs i).getD j ⟨0, 0⟩ = q at c3 c4 hsu
    have KK := Aside0.mk (And.intro c1 (And.intro c2 (And.intro c3 c4)))
    have HSU := Aside0.mk hsu
    have R0 := Aside0.mk HR1.out.drew
    have R1 := Aside0.mk (R0.out.set' i q)
    have R2 := Aside0.mk (R1.out.set' j p)
    have f1 := R0.out.froz (i * 2)
    have f2 := R0.out.froz (i * 2 + 1)
    have f3 := R1.out.froz (j * 2)
    have f4 := R1.out.froz (j * 2 + 1)
    have hlg := HR1.out.lt
    have fr1 := Rv.frame (i * 2) (.int .i64 q.f0) (.int .i64 q.f1) (W := wr.drew) hlg
    have fr2 := Rv.frame (j * 2) (.int .i64 p.f0) (.int .i64 p.f1) (W := (wr.drew.setCell ⟨g, i * 2, none⟩ (.int .i64 q.f0)).setCell ⟨g, i * 2 + 1, none⟩ (.int .i64 q.f1)) (by simpa using hlg)
    have HFR := Aside0.mk ((HF.out.trans ⟨rfl, rfl, rfl, Nat.le_refl _, fun _ _ _ _ => rfl⟩ : Fr w wr.drew g none).trans (fr1.trans fr2))
    have q3 := (R1.out.cells' j (by simp; omega)).1
    have q4 := (R1.out.cells' j (by simp; omega)).2
    clear c1 c2 c3 c4 hsu fr1 fr2
    refine start_ (n := 16) (S := fun w' => w'.cell? ⟨g, i * 2, none⟩ = some (.int .i64 p.f0) ∧ w'.cell? ⟨g, i * 2 + 1, none⟩ = some (.int .i64 p.f1) ∧ w'.cell? ⟨g, j * 2, none⟩ = some (.int .i64 q.f0) ∧ w'.cell? ⟨g, j * 2 + 1, none⟩ = some (.int .i64 q.f1)) (ds := [13, 15]) #[false, false, false, false, false, false, false, false, false, false, false, false, false, false, false, false] (by kernel_rfl) rfl rfl KK.out (fun hHeld => ?_)
    refine with_tabW rev3_tab rev3_bits (fun HT_ HW_ => ?_)
    generalize wr.drew = w1 at *
    refine take_ (i := 0) (N := some 14) (v := ?_) (a' := ?_) #[true, false, false, false, false, false, false, false, false, false, false, false, false, false, false, false] rfl rfl (take_ofW HT_.out HW_.out (by kernel_rfl)) (fun _ _ _ h => h) (Or.inl ⟨by rfl, ?_⟩) hHeld ?_ ?_
    rotate_left
    · rintro w' ⟨s0, s1, s2, s3⟩
      go_simp
      with_reducible rfl
    rotate_left
    · simp only [Act.put, List.setIfInBounds_toArray, List.set_cons_zero, List.set_cons_succ, i64_w, i32_w]
      rfl
    refine take_ (i := 1) (N := some 15) (v := ?_) (a' := ?_) #[true, true, false, false, false, false, false, false, false, false, false, false, false, false, false, false] rfl rfl (take_ofW HT_.out HW_.out (by kernel_rfl)) (fun _ _ _ h => h) (Or.inl ⟨by rfl, ?_⟩) hHeld ?_ ?_
    rotate_left
    · rintro w' ⟨s0, s1, s2, s3⟩
      go_simp
      with_reducible rfl
    rotate_left
    · simp only [Act.put, List.setIfInBounds_toArray, List.set_cons_zero, List.set_cons_succ, i64_w, i32_w]
      rfl
    refine pure_ (i := 2) (N := some 16) (v := ?_) (a' := ?_) #[true, true, true, false, false, false, false, false, false, false, false, false, false, false, false, false] rfl rfl (any_of HT_.out (by kernel_rfl)) (fun _ _ _ h => h) (Or.inl ⟨by rfl, ?_⟩) ?_ ?_
    rotate_left
    · intro w'
      go_simp
      with_reducible rfl
    rotate_left
    · simp only [Act.put, List.setIfInBounds_toArray, List.set_cons_zero, List.set_cons_succ, i64_w, i32_w]
      rfl
    refine pure_ (i := 3) (N := some 17) (v := ?_) (a' := ?_) #[true, true, true, true, false, false, false, false, false, false, false, false, false, false, false, false] rfl rfl (any_of HT_.out (by kernel_rfl)) (fun _ _ _ h => h) (Or.inl ⟨by rfl, ?_⟩) ?_ ?_
    rotate_left
    · intro w'
      go_simp
      with_reducible rfl
    rotate_left
    · simp only [Act.put, List.setIfInBounds_toArray, List.set_cons_zero, List.set_cons_succ, i64_w, i32_w]
      rfl
    refine take_ (i := 4) (N := some 18) (v := ?_) (a' := ?_) #[true, true, true, true, true, false, false, false, false, false, false, false, false, false, false, false] rfl rfl (take_ofW HT_.out HW_.out (by kernel_rfl)) (fun _ _ _ h => h) (Or.inl ⟨by rfl, ?_⟩) hHeld ?_ ?_
    rotate_left
    · rintro w' ⟨s0, s1, s2, s3⟩
      go_simp
      with_reducible rfl
    rotate_left
    · simp only [Act.put, List.setIfInBounds_toArray, List.set_cons_zero, List.set_cons_succ, i64_w, i32_w]
      rfl
    refine take_ (i := 5) (N := some 19) (v := ?_) (a' := ?_) #[true, true, true, true, true, true, false, false, false, false, false, false, false, false, false, false] rfl rfl (take_ofW HT_.out HW_.out (by kernel_rfl)) (fun _ _ _ h => h) (Or.inl ⟨by rfl, ?_⟩) hHeld ?_ ?_
    rotate_left
    · rintro w' ⟨s0, s1, s2, s3⟩
      go_simp
      with_reducible rfl
    rotate_left
    · simp only [Act.put, List.setIfInBounds_toArray, List.set_cons_zero, List.set_cons_succ, i64_w, i32_w]
      rfl
    refine take_ (i := 6) (N := some 20) (v := ?_) (a' := ?_) #[true, true, true, true, true, true, true, false, false, false, false, false, false, false, false, false] rfl rfl (take_ofW HT_.out HW_.out (by kernel_rfl)) (fun _ _ _ h => h) (Or.inl ⟨by rfl, ?_⟩) hHeld ?_ ?_
    rotate_left
    · rintro w' ⟨s0, s1, s2, s3⟩
      go_simp
      with_reducible rfl
    rotate_left
    · simp only [Act.put, List.setIfInBounds_toArray, List.set_cons_zero, List.set_cons_succ, i64_w, i32_w]
      rfl
    refine take_ (i := 7) (N := some 21) (v := ?_) (a' := ?_) #[true, true, true, true, true, true, true, true, false, false, false, false, false, false, false, false] rfl rfl (take_ofW HT_.out HW_.out (by kernel_rfl)) (fun _ _ _ h => h) (Or.inl ⟨by rfl, ?_⟩) hHeld ?_ ?_
    rotate_left
    · rintro w' ⟨s0, s1, s2, s3⟩
      go_simp
      with_reducible rfl
    rotate_left
    · simp only [Act.put, List.setIfInBounds_toArray, List.set_cons_zero, List.set_cons_succ, i64_w, i32_w]
      rfl
    refine take_ (i := 8) (N := some 22) (v := ?_) (a' := ?_) #[true, true, true, true, true, true, true, true, true, false, false, false, false, false, false, false] rfl rfl (take_ofW HT_.out HW_.out (by kernel_rfl)) (fun _ _ _ h => h) (Or.inl ⟨by rfl, ?_⟩) hHeld ?_ ?_
    rotate_left
    · rintro w' ⟨s0, s1, s2, s3⟩
      go_simp
      with_reducible rfl
    rotate_left
    · simp only [Act.put, List.setIfInBounds_toArray, List.set_cons_zero, List.set_cons_succ, i64_w, i32_w]
      rfl
    refine take_ (i := 9) (N := some 23) (v := ?_) (a' := ?_) #[true, true, true, true, true, true, true, true, true, true, false, false, false, false, false, false] rfl rfl (take_ofW HT_.out HW_.out (by kernel_rfl)) (fun _ _ _ h => h) (Or.inl ⟨by rfl, ?_⟩) hHeld ?_ ?_
    rotate_left
    · rintro w' ⟨s0, s1, s2, s3⟩
      go_simp
      with_reducible rfl
    rotate_left
    · simp only [Act.put, List.setIfInBounds_toArray, List.set_cons_zero, List.set_cons_succ, i64_w, i32_w]
      rfl
    refine take_ (i := 10) (N := some 24) (v := ?_) (a' := ?_) #[true, true, true, true, true, true, true, true, true, true, true, false, false, false, false, false] rfl rfl (take_ofW HT_.out HW_.out (by kernel_rfl)) (fun _ _ _ h => h) (Or.inl ⟨by rfl, ?_⟩) hHeld ?_ ?_
    rotate_left
    · rintro w' ⟨s0, s1, s2, s3⟩
      go_simp
      with_reducible rfl
    rotate_left
    · simp only [Act.put, List.setIfInBounds_toArray, List.set_cons_zero, List.set_cons_succ, i64_w, i32_w]
      rfl
    refine take_ (i := 11) (N := some 25) (v := ?_) (a' := ?_) #[true, true, true, true, true, true, true, true, true, true, true, true, false, false, false, false] rfl rfl (take_ofW HT_.out HW_.out (by kernel_rfl)) (fun _ _ _ h => h) (Or.inl ⟨by rfl, ?_⟩) hHeld ?_ ?_
    rotate_left
    · rintro w' ⟨s0, s1, s2, s3⟩
      go_simp
      with_reducible rfl
    rotate_left
    · simp only [Act.put, List.setIfInBounds_toArray, List.set_cons_zero, List.set_cons_succ, i64_w, i32_w]
      rfl
    refine take_ (i := 12) (N := some 26) (v := ?_) (a' := ?_) #[true, true, true, true, true, true, true, true, true, true, true, true, true, false, false, false] rfl rfl (take_ofW HT_.out HW_.out (by kernel_rfl)) (fun _ _ _ h => h) (Or.inl ⟨by rfl, ?_⟩) hHeld ?_ ?_
    rotate_left
    · rintro w' ⟨s0, s1, s2, s3⟩
      go_simp
      with_reducible rfl
    rotate_left
    · simp only [Act.put, List.setIfInBounds_toArray, List.set_cons_zero, List.set_cons_succ, i64_w, i32_w]
      rfl
    refine last_ (i := 13) (N := none) #[true, true, true, true, true, true, true, true, true, true, true, true, true, true, false, false] rfl rfl (one_of HT_.out (by kernel_rfl)) (by decide) (fun K hK => ?_)
    refine store_step (by rfl) rfl (w1 := (w1.setCell ⟨g, i * 2, none⟩ (.int .i64 q.f0)).setCell ⟨g, i * 2 + 1, none⟩ (.int .i64 q.f1)) (by go_simp) ?_
    refine hK.out _ _ ?_
    clear hK K
    refine pure_ (i := 14) (N := some 27) (v := ?_) (a' := ?_) #[true, true, true, true, true, true, true, true, true, true, true, true, true, true, true, false] rfl rfl (any_of HT_.out (by kernel_rfl)) (fun _ _ _ h => h) (Or.inl ⟨by rfl, ?_⟩) ?_ ?_
    rotate_left
    · intro w'
      go_simp
      with_reducible rfl
    rotate_left
    · simp only [Act.put, List.setIfInBounds_toArray, List.set_cons_zero, List.set_cons_succ, i64_w, i32_w]
      rfl
    refine last_ (i := 15) (N := none) #[true, true, true, true, true, true, true, true, true, true, true, true, true, true, true, true] rfl rfl (one_of HT_.out (by kernel_rfl)) (by decide) (fun K hK => ?_)
    refine store_step (by rfl) rfl (w1 := (((w1.setCell ⟨g, i * 2, none⟩ (.int .i64 q.f0)).setCell ⟨g, i * 2 + 1, none⟩ (.int .i64 q.f1)).setCell ⟨g, j * 2, none⟩ (.int .i64 p.f0)).setCell ⟨g, j * 2 + 1, none⟩ (.int .i64 p.f1)) (by go_simp) ?_
    refine hK.out _ _ ?_
    clear hK K
    refine done_ (done_of HT_.out (by kernel_rfl)) ?_
    go_wp2
    go_roundw
    case rel =>
     refine ⟨i + 1, j - 1, by omega, by omega, by go_num, by go_num, ⟨?_⟩, HFR⟩
     rw [HSU.out]
     exact R2.out
    case measure => simp [intOf]; omega
  · have hd : decide ((i : Int) < (j : Int)) = false := decide_eq_false (by omega)
    go_wp2
    go_end0
    refine ⟨⟨_, rfl⟩, ?_, HF.out⟩
    rw [← revTo_end xs i hi (by omega)]
    exact HR1.out

end Go.Proofs.Ytkocigldchiifaa.H
