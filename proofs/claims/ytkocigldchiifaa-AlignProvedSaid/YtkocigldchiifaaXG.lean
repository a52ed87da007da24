/- Texts T0, T1, P5, T2 of this chapter, one behind the other. -/
import Derived.Carry
import Derived.Laws.IdiomArrays
import Derived.Lib.SmallJoins
import Derived.LoopIn
import Derived.LoopNIn
import Derived.Maps.AppendAt
import Derived.OpenShut
import Derived.OwnWalkIn
import Derived.RangeFuncBound
import Derived.RangeFuncBox
import Derived.RangeFuncCalls
import Derived.RangeFuncLeaves
import Derived.RangeFuncNested
import Derived.RangeFuncWrites
import Derived.Shelf.Abstract
import Derived.Shelf.RegionOpen
import Derived.TacticsInMore
import Derived.WalkKit
import Derived.WalkSmall
import Derived.Test.YtkocigldchiifaaXB
import Derived.Test.YtkocigldchiifaaXE

/- Take.made: a roll by numbers. -/
namespace Go.Proofs.Ytkocigldchiifaa.H
open Go.RowKit Go.Proofs.YtkocigldchiifaaW.PrintWords Go.Proofs.YtkocigldchiifaaW.PrintLast Go.Proofs.YtkocigldchiifaaW.PrintMore
open Go.Shelf Go.Proofs.Ytkocigldchiifaa.QA
attribute [local go_sem] Oper.semAt_some
set_option linter.unusedVariables false
set_option linter.unusedSimpArgs false



def made5_T : Bool × List (List Nat × List Nat) := (true, [([], []), ([], []), ([], []), ([1, 2], [1, 2]), ([3], [3]), ([4], [4]), ([5], [5]), ([6], [6]), ([7], [7]), ([], []), ([], []), ([9, 10], [9, 10]), ([11], [11]), ([12], [12]), ([13], [13]), ([14], [14]), ([], []), ([], []), ([16, 17], [16, 17]), ([18], [18]), ([19], [19]), ([20], [20]), ([21], [21]), ([8, 15, 22], [8, 15, 22]), ([23], [23]), ([0, 24], [0, 24]), ([25, 25, 0, 1, 2, 3, 4, 5, 6, 7, 8, 9, 10, 11, 12, 13, 14, 15, 16, 17, 18, 19, 20, 21, 22, 23, 24, 25], [0, 25])])
def made5_B : List Nat := [0, 0, 0, 6, 14, 30, 62, 126, 254, 0, 0, 1536, 3584, 7680, 15872, 32256, 0, 0, 196608, 458752, 983040, 2031616, 4128768, 8388606, 16777214, 33554431, 67108863]
theorem made5_tab : rtab .any (opsOf Try.f31 5) = made5_T := by kernel_rfl
theorem made5_bits : waitsOk made5_T.2 made5_B = true := by kernel_rfl

def isByte (a : Int) : Prop := 0 ≤ a ∧ a ≤ 255
def Byte3 (x : S59) : Prop := isByte x.f0 ∧ isByte x.f1 ∧ isByte x.f2
/-- Three bytes. -/
def k111 : Kd S59 := Kd.iso (Kd.pair (Kd.int .u8) (Kd.pair (Kd.int .u8) (Kd.int .u8))) (fun x : S59 => (x.f0, x.f1, x.f2))
theorem k111_open {w : World} {x : S59} {cs : List Value} (h : k111.K w x cs) : cs = [.int .u8 x.f0, .int .u8 x.f1, .int .u8 x.f2] := by
 obtain ⟨a, b, rfl, rfl, ⟨c, d, rfl, rfl, rfl⟩⟩ := h
 rfl
theorem k111_mk (w : World) (x : S59) : k111.K w x [.int .u8 x.f0, .int .u8 x.f1, .int .u8 x.f2] := ⟨[.int .u8 x.f0], [.int .u8 x.f1, .int .u8 x.f2], rfl, rfl, ⟨[.int .u8 x.f1], [.int .u8 x.f2], rfl, rfl, rfl⟩⟩
theorem at_T111 {w : World} {A : Option Addr} {n : Nat} {xs : List S59} (h : Kd.C k111 w A n xs) (i : Nat) (h1 : i < n) : ∃ ad, A = some ad ∧ w.cell? (ad.add (i * 3)) = some (.int .u8 (rd_T59 xs i).f0) ∧ w.cell? ⟨(ad.add (i * 3)).block, (ad.add (i * 3)).off + 1, none⟩ = some (.int .u8 (rd_T59 xs i).f1) ∧ w.cell? ⟨(ad.add (i * 3)).block, (ad.add (i * 3)).off + 2, none⟩ = some (.int .u8 (rd_T59 xs i).f2) := by
 obtain ⟨ad, c, e, _, hK, hc0⟩ := Kd.C_get h z59 (i : Int) (by omega) (by omega)
 have hc : ∀ j u, c[j]? = some u → w.cell? (ad.add ((i : Int).toNat * 3 + j)) = some u := hc0
 obtain rfl := k111_open hK
 rw [Int.toNat_natCast] at hc
 exact ⟨ad, e, hc 0 _ rfl, by rw [← add_field _ _ 1 (by omega)]; exact hc 1 _ rfl, by rw [← add_field _ _ 2 (by omega)]; exact hc 2 _ rfl⟩
def madeOne (x : S59) : S59 := ⟨1 + x.f0 % 3, x.f1 % 20, x.f2 % 6⟩
/-- The roll of a take. -/
def madeF (l : List S59) : List S59 := if l = [] then [⟨1, 0, 0⟩] else (l.take 5).map madeOne
set_option maxRecDepth 100000 in
set_option maxHeartbeats 1000000 in
theorem made_calls (A : Option Addr) (c : Nat) (l : List S59) (w : World) (hC : Kd.C k111 w A l.length l) (hc : l.length ≤ c) (hl : ∀ x ∈ l, Byte3 x) :
  Calls Try.prog 31 #[.slice A l.length c] w fun e w' => ∃ v, e = .returned v ∧ Kd.R k59 59 w' w.heap.size (fun _ => True) v (madeF l) ∧ Below w.heap.size w w' := by
 have hu59 := Try.underlying59
 have hu111 : Try.prog.underlying 111 = some (.array 3 5) := by kernel_rfl
 have HC := Aside0.mk (And.intro hC (And.intro hc hl))
 clear hC hc hl
 go_enter Try.func31, Try.ntmps31
 go_wp2
 go_loopw [3, 4] (fun s3 s4 wr => ∃ (i : Nat) (v : Value), i ≤ l.length ∧ i ≤ 5 ∧ s3 = v ∧ s4 = .int .i64 i ∧ Aside0 (Kd.R k59 59 wr w.heap.size (fun _ => True) v ((l.take i).map madeOne)) ∧ Aside0 (Below w.heap.size w wr)) (fun _ s4 _ => 5 - (intOf s4).toNat)
 case atStart => exact ⟨0, .slice none 0 0, by omega, by omega, rfl, rfl, ⟨by simpa using Kd.R_nil k59 59 w w.heap.size (fun _ => True)⟩, ⟨Below.refl _ _⟩⟩
 case round =>
  obtain ⟨i, v, hi, hi5, rfl, rfl, HR1, HB1⟩ := hrel
  by_cases hlt : i < l.length
  · have hd1 : decide ((i : Int) < (l.length : Int)) = true := decide_eq_true (by omega)
    by_cases hl5 : i < 5
    · have hd2 : decide ((i : Int) < 5) = true := decide_eq_true (by omega)
      obtain ⟨ad, rfl, x0, x1, x2⟩ := at_T111 (Kd.C_below HC.out.1 HB1.out) i (by omega)
      have hxb := HC.out.2.2 (rd_T59 l i) (by unfold rd_T59; rw [Int.toNat_natCast, List.getD_eq_getElem?_getD, List.getElem?_eq_getElem hlt]; exact List.getElem_mem _)
      have hsu : (l.take (i + 1)).map madeOne = (l.take i).map madeOne ++ [madeOne (rd_T59 l i)] := by
       rw [List.take_add_one, List.map_append]
       congr 1
       unfold rd_T59
       rw [Int.toNat_natCast, List.getD_eq_getElem?_getD, List.getElem?_eq_getElem hlt]
       rfl
      generalize rd_T59 l i = x at x0 x1 x2 hxb hsu
      have hlen : ((l.take i).map madeOne).length ≤ 5 := by simp; omega
      generalize (l.take i).map madeOne = xs at HR1 hsu hlen
      have HSU := Aside0.mk hsu
      have HXB := Aside0.mk hxb
      clear hsu hxb
      go_wp2
      have KK := Aside0.mk (And.intro (show wr.drew.cell? (ad.add (i * 3)) = some (.int .u8 x.f0) from x0) (And.intro (show wr.drew.cell? ⟨(ad.add (i * 3)).block, (ad.add (i * 3)).off + 1, none⟩ = some (.int .u8 x.f1) from x1) (show wr.drew.cell? ⟨(ad.add (i * 3)).block, (ad.add (i * 3)).off + 2, none⟩ = some (.int .u8 x.f2) from x2)))
      have HR2 := Aside0.mk (show Kd.R k59 59 wr.drew w.heap.size (fun _ => True) _ xs from HR1.out)
      have HB2 := Aside0.mk (show Below w.heap.size w wr.drew from HB1.out.trans ((pw_below_drewN (Below.refl _ _) 1 : Below wr.heap.size wr wr.drew).mono HB1.out.size))
      have hin : i < l.length := hlt
      have e0 : IntKind.i64.wrap x.f0 = x.f0 := by have := HXB.out.1; unfold isByte at this; rw [i64_w]; unfold wrap64; omega
      have e1 : IntKind.i64.wrap x.f1 = x.f1 := by have := HXB.out.2.1; unfold isByte at this; rw [i64_w]; unfold wrap64; omega
      have e2 : IntKind.i64.wrap x.f2 = x.f2 := by have := HXB.out.2.2; unfold isByte at this; rw [i64_w]; unfold wrap64; omega
      have t0 : wrap64 (1 + x.f0.tmod 3) = 1 + x.f0 % 3 := by have := HXB.out.1; unfold isByte at this; rw [Int.tmod_eq_emod_of_nonneg this.1]; unfold wrap64; omega
      have t1 : x.f1.tmod 20 = x.f1 % 20 := by have := HXB.out.2.1; unfold isByte at this; exact Int.tmod_eq_emod_of_nonneg this.1
      have t2 : x.f2.tmod 6 = x.f2 % 6 := by have := HXB.out.2.2; unfold isByte at this; exact Int.tmod_eq_emod_of_nonneg this.1
      clear x0 x1 x2 HR1 HB1 hlt
      refine start_ (n := 27) (S := fun w' => w'.cell? (ad.add (i * 3)) = some (.int .u8 x.f0) ∧ w'.cell? ⟨(ad.add (i * 3)).block, (ad.add (i * 3)).off + 1, none⟩ = some (.int .u8 x.f1) ∧ w'.cell? ⟨(ad.add (i * 3)).block, (ad.add (i * 3)).off + 2, none⟩ = some (.int .u8 x.f2)) (ds := [25]) #[false, false, false, false, false, false, false, false, false, false, false, false, false, false, false, false, false, false, false, false, false, false, false, false, false, false, false] (by kernel_rfl) rfl rfl KK.out (fun hHeld => ?_)
      refine with_tabW made5_tab made5_bits (fun HT_ HW_ => ?_)
      generalize wr.drew = w2 at *
      refine take_ (i := 0) (N := some 15) (v := ?_) (a' := ?_) #[true, false, false, false, false, false, false, false, false, false, false, false, false, false, false, false, false, false, false, false, false, false, false, false, false, false, false] rfl rfl (take_ofW HT_.out HW_.out (by kernel_rfl)) (fun _ _ _ h => h) (Or.inl ⟨by rfl, ?_⟩) hHeld ?_ ?_
      rotate_left
      · rintro w' ⟨s0, s1, s2⟩
        go_simp
        with_reducible rfl
      rotate_left
      · simp only [Act.put, List.setIfInBounds_toArray, List.set_cons_zero, List.set_cons_succ, i64_w, i32_w]
        rfl
      refine take_ (i := 1) (N := some 16) (v := ?_) (a' := ?_) #[true, true, false, false, false, false, false, false, false, false, false, false, false, false, false, false, false, false, false, false, false, false, false, false, false, false, false] rfl rfl (take_ofW HT_.out HW_.out (by kernel_rfl)) (fun _ _ _ h => h) (Or.inl ⟨by rfl, ?_⟩) hHeld ?_ ?_
      rotate_left
      · rintro w' ⟨s0, s1, s2⟩
        go_simp
        with_reducible rfl
      rotate_left
      · simp only [Act.put, List.setIfInBounds_toArray, List.set_cons_zero, List.set_cons_succ, i64_w, i32_w]
        rfl
      refine take_ (i := 2) (N := some 17) (v := ?_) (a' := ?_) #[true, true, true, false, false, false, false, false, false, false, false, false, false, false, false, false, false, false, false, false, false, false, false, false, false, false, false] rfl rfl (take_ofW HT_.out HW_.out (by kernel_rfl)) (fun _ _ _ h => h) (Or.inl ⟨by rfl, ?_⟩) hHeld ?_ ?_
      rotate_left
      · rintro w' ⟨s0, s1, s2⟩
        go_simp
        with_reducible rfl
      rotate_left
      · simp only [Act.put, List.setIfInBounds_toArray, List.set_cons_zero, List.set_cons_succ, i64_w, i32_w]
        rfl
      refine take_ (i := 3) (N := some 18) (v := ?_) (a' := ?_) #[true, true, true, true, false, false, false, false, false, false, false, false, false, false, false, false, false, false, false, false, false, false, false, false, false, false, false] rfl rfl (take_ofW HT_.out HW_.out (by kernel_rfl)) (fun _ _ _ h => h) (Or.inl ⟨by rfl, ?_⟩) hHeld ?_ ?_
      rotate_left
      · rintro w' ⟨s0, s1, s2⟩
        go_simp
        with_reducible rfl
      rotate_left
      · simp only [Act.put, List.setIfInBounds_toArray, List.set_cons_zero, List.set_cons_succ, i64_w, i32_w]
        rfl
      refine take_ (i := 4) (N := some 19) (v := ?_) (a' := ?_) #[true, true, true, true, true, false, false, false, false, false, false, false, false, false, false, false, false, false, false, false, false, false, false, false, false, false, false] rfl rfl (take_ofW HT_.out HW_.out (by kernel_rfl)) (fun _ _ _ h => h) (Or.inl ⟨by rfl, ?_⟩) hHeld ?_ ?_
      rotate_left
      · rintro w' ⟨s0, s1, s2⟩
        go_simp
        with_reducible rfl
      rotate_left
      · simp only [Act.put, List.setIfInBounds_toArray, List.set_cons_zero, List.set_cons_succ, i64_w, i32_w]
        rfl
      refine take_ (i := 5) (N := some 20) (v := ?_) (a' := ?_) #[true, true, true, true, true, true, false, false, false, false, false, false, false, false, false, false, false, false, false, false, false, false, false, false, false, false, false] rfl rfl (take_ofW HT_.out HW_.out (by kernel_rfl)) (fun _ _ _ h => h) (Or.inl ⟨by rfl, ?_⟩) hHeld ?_ ?_
      rotate_left
      · rintro w' ⟨s0, s1, s2⟩
        go_simp
        with_reducible rfl
      rotate_left
      · simp only [Act.put, List.setIfInBounds_toArray, List.set_cons_zero, List.set_cons_succ, i64_w, i32_w]
        rfl
      refine take_ (i := 6) (N := some 21) (v := ?_) (a' := ?_) #[true, true, true, true, true, true, true, false, false, false, false, false, false, false, false, false, false, false, false, false, false, false, false, false, false, false, false] rfl rfl (take_ofW HT_.out HW_.out (by kernel_rfl)) (fun _ _ _ h => h) (Or.inl ⟨by rfl, ?_⟩) hHeld ?_ ?_
      rotate_left
      · rintro w' ⟨s0, s1, s2⟩
        go_simp
        with_reducible rfl
      rotate_left
      · simp only [Act.put, List.setIfInBounds_toArray, List.set_cons_zero, List.set_cons_succ, i64_w, i32_w]
        rfl
      refine take_ (i := 7) (N := some 22) (v := ?_) (a' := ?_) #[true, true, true, true, true, true, true, true, false, false, false, false, false, false, false, false, false, false, false, false, false, false, false, false, false, false, false] rfl rfl (take_ofW HT_.out HW_.out (by kernel_rfl)) (fun _ _ _ h => h) (Or.inl ⟨by rfl, ?_⟩) hHeld ?_ ?_
      rotate_left
      · rintro w' ⟨s0, s1, s2⟩
        go_simp
        with_reducible rfl
      rotate_left
      · simp only [Act.put, List.setIfInBounds_toArray, List.set_cons_zero, List.set_cons_succ, i64_w, i32_w]
        rfl
      refine take_ (i := 8) (N := some 23) (v := ?_) (a' := ?_) #[true, true, true, true, true, true, true, true, true, false, false, false, false, false, false, false, false, false, false, false, false, false, false, false, false, false, false] rfl rfl (take_ofW HT_.out HW_.out (by kernel_rfl)) (fun _ _ _ h => h) (Or.inl ⟨by rfl, ?_⟩) hHeld ?_ ?_
      rotate_left
      · rintro w' ⟨s0, s1, s2⟩
        go_simp
        with_reducible rfl
      rotate_left
      · simp only [Act.put, List.setIfInBounds_toArray, List.set_cons_zero, List.set_cons_succ, i64_w, i32_w]
        rfl
      refine take_ (i := 9) (N := some 24) (v := ?_) (a' := ?_) #[true, true, true, true, true, true, true, true, true, true, false, false, false, false, false, false, false, false, false, false, false, false, false, false, false, false, false] rfl rfl (take_ofW HT_.out HW_.out (by kernel_rfl)) (fun _ _ _ h => h) (Or.inl ⟨by rfl, ?_⟩) hHeld ?_ ?_
      rotate_left
      · rintro w' ⟨s0, s1, s2⟩
        go_simp
        with_reducible rfl
      rotate_left
      · simp only [Act.put, List.setIfInBounds_toArray, List.set_cons_zero, List.set_cons_succ, i64_w, i32_w]
        rfl
      refine take_ (i := 10) (N := some 25) (v := ?_) (a' := ?_) #[true, true, true, true, true, true, true, true, true, true, true, false, false, false, false, false, false, false, false, false, false, false, false, false, false, false, false] rfl rfl (take_ofW HT_.out HW_.out (by kernel_rfl)) (fun _ _ _ h => h) (Or.inl ⟨by rfl, ?_⟩) hHeld ?_ ?_
      rotate_left
      · rintro w' ⟨s0, s1, s2⟩
        go_simp
        with_reducible rfl
      rotate_left
      · simp only [Act.put, List.setIfInBounds_toArray, List.set_cons_zero, List.set_cons_succ, i64_w, i32_w]
        rfl
      refine take_ (i := 11) (N := some 26) (v := ?_) (a' := ?_) #[true, true, true, true, true, true, true, true, true, true, true, true, false, false, false, false, false, false, false, false, false, false, false, false, false, false, false] rfl rfl (take_ofW HT_.out HW_.out (by kernel_rfl)) (fun _ _ _ h => h) (Or.inl ⟨by rfl, ?_⟩) hHeld ?_ ?_
      rotate_left
      · rintro w' ⟨s0, s1, s2⟩
        go_simp
        with_reducible rfl
      rotate_left
      · simp only [Act.put, List.setIfInBounds_toArray, List.set_cons_zero, List.set_cons_succ, i64_w, i32_w]
        rfl
      refine take_ (i := 12) (N := some 27) (v := ?_) (a' := ?_) #[true, true, true, true, true, true, true, true, true, true, true, true, true, false, false, false, false, false, false, false, false, false, false, false, false, false, false] rfl rfl (take_ofW HT_.out HW_.out (by kernel_rfl)) (fun _ _ _ h => h) (Or.inl ⟨by rfl, ?_⟩) hHeld ?_ ?_
      rotate_left
      · rintro w' ⟨s0, s1, s2⟩
        go_simp
        with_reducible rfl
      rotate_left
      · simp only [Act.put, List.setIfInBounds_toArray, List.set_cons_zero, List.set_cons_succ, i64_w, i32_w]
        rfl
      refine take_ (i := 13) (N := some 28) (v := ?_) (a' := ?_) #[true, true, true, true, true, true, true, true, true, true, true, true, true, true, false, false, false, false, false, false, false, false, false, false, false, false, false] rfl rfl (take_ofW HT_.out HW_.out (by kernel_rfl)) (fun _ _ _ h => h) (Or.inl ⟨by rfl, ?_⟩) hHeld ?_ ?_
      rotate_left
      · rintro w' ⟨s0, s1, s2⟩
        go_simp
        with_reducible rfl
      rotate_left
      · simp only [Act.put, List.setIfInBounds_toArray, List.set_cons_zero, List.set_cons_succ, i64_w, i32_w]
        rfl
      refine take_ (i := 14) (N := some 29) (v := ?_) (a' := ?_) #[true, true, true, true, true, true, true, true, true, true, true, true, true, true, true, false, false, false, false, false, false, false, false, false, false, false, false] rfl rfl (take_ofW HT_.out HW_.out (by kernel_rfl)) (fun _ _ _ h => h) (Or.inl ⟨by rfl, ?_⟩) hHeld ?_ ?_
      rotate_left
      · rintro w' ⟨s0, s1, s2⟩
        go_simp
        with_reducible rfl
      rotate_left
      · simp only [Act.put, List.setIfInBounds_toArray, List.set_cons_zero, List.set_cons_succ, i64_w, i32_w]
        rfl
      refine take_ (i := 15) (N := some 30) (v := ?_) (a' := ?_) #[true, true, true, true, true, true, true, true, true, true, true, true, true, true, true, true, false, false, false, false, false, false, false, false, false, false, false] rfl rfl (take_ofW HT_.out HW_.out (by kernel_rfl)) (fun _ _ _ h => h) (Or.inl ⟨by rfl, ?_⟩) hHeld ?_ ?_
      rotate_left
      · rintro w' ⟨s0, s1, s2⟩
        go_simp
        with_reducible rfl
      rotate_left
      · simp only [Act.put, List.setIfInBounds_toArray, List.set_cons_zero, List.set_cons_succ, i64_w, i32_w]
        rfl
      refine take_ (i := 16) (N := some 31) (v := ?_) (a' := ?_) #[true, true, true, true, true, true, true, true, true, true, true, true, true, true, true, true, true, false, false, false, false, false, false, false, false, false, false] rfl rfl (take_ofW HT_.out HW_.out (by kernel_rfl)) (fun _ _ _ h => h) (Or.inl ⟨by rfl, ?_⟩) hHeld ?_ ?_
      rotate_left
      · rintro w' ⟨s0, s1, s2⟩
        go_simp
        with_reducible rfl
      rotate_left
      · simp only [Act.put, List.setIfInBounds_toArray, List.set_cons_zero, List.set_cons_succ, i64_w, i32_w]
        rfl
      refine take_ (i := 17) (N := some 32) (v := ?_) (a' := ?_) #[true, true, true, true, true, true, true, true, true, true, true, true, true, true, true, true, true, true, false, false, false, false, false, false, false, false, false] rfl rfl (take_ofW HT_.out HW_.out (by kernel_rfl)) (fun _ _ _ h => h) (Or.inl ⟨by rfl, ?_⟩) hHeld ?_ ?_
      rotate_left
      · rintro w' ⟨s0, s1, s2⟩
        go_simp
        with_reducible rfl
      rotate_left
      · simp only [Act.put, List.setIfInBounds_toArray, List.set_cons_zero, List.set_cons_succ, i64_w, i32_w]
        rfl
      refine take_ (i := 18) (N := some 33) (v := ?_) (a' := ?_) #[true, true, true, true, true, true, true, true, true, true, true, true, true, true, true, true, true, true, true, false, false, false, false, false, false, false, false] rfl rfl (take_ofW HT_.out HW_.out (by kernel_rfl)) (fun _ _ _ h => h) (Or.inl ⟨by rfl, ?_⟩) hHeld ?_ ?_
      rotate_left
      · rintro w' ⟨s0, s1, s2⟩
        go_simp
        with_reducible rfl
      rotate_left
      · simp only [Act.put, List.setIfInBounds_toArray, List.set_cons_zero, List.set_cons_succ, i64_w, i32_w]
        rfl
      refine take_ (i := 19) (N := some 34) (v := ?_) (a' := ?_) #[true, true, true, true, true, true, true, true, true, true, true, true, true, true, true, true, true, true, true, true, false, false, false, false, false, false, false] rfl rfl (take_ofW HT_.out HW_.out (by kernel_rfl)) (fun _ _ _ h => h) (Or.inl ⟨by rfl, ?_⟩) hHeld ?_ ?_
      rotate_left
      · rintro w' ⟨s0, s1, s2⟩
        go_simp
        with_reducible rfl
      rotate_left
      · simp only [Act.put, List.setIfInBounds_toArray, List.set_cons_zero, List.set_cons_succ, i64_w, i32_w]
        rfl
      refine take_ (i := 20) (N := some 35) (v := ?_) (a' := ?_) #[true, true, true, true, true, true, true, true, true, true, true, true, true, true, true, true, true, true, true, true, true, false, false, false, false, false, false] rfl rfl (take_ofW HT_.out HW_.out (by kernel_rfl)) (fun _ _ _ h => h) (Or.inl ⟨by rfl, ?_⟩) hHeld ?_ ?_
      rotate_left
      · rintro w' ⟨s0, s1, s2⟩
        go_simp
        with_reducible rfl
      rotate_left
      · simp only [Act.put, List.setIfInBounds_toArray, List.set_cons_zero, List.set_cons_succ, i64_w, i32_w]
        rfl
      refine take_ (i := 21) (N := some 36) (v := ?_) (a' := ?_) #[true, true, true, true, true, true, true, true, true, true, true, true, true, true, true, true, true, true, true, true, true, true, false, false, false, false, false] rfl rfl (take_ofW HT_.out HW_.out (by kernel_rfl)) (fun _ _ _ h => h) (Or.inl ⟨by rfl, ?_⟩) hHeld ?_ ?_
      rotate_left
      · rintro w' ⟨s0, s1, s2⟩
        go_simp
        with_reducible rfl
      rotate_left
      · simp only [Act.put, List.setIfInBounds_toArray, List.set_cons_zero, List.set_cons_succ, i64_w, i32_w]
        rfl
      refine take_ (i := 22) (N := some 37) (v := ?_) (a' := ?_) #[true, true, true, true, true, true, true, true, true, true, true, true, true, true, true, true, true, true, true, true, true, true, true, false, false, false, false] rfl rfl (take_ofW HT_.out HW_.out (by kernel_rfl)) (fun _ _ _ h => h) (Or.inl ⟨by rfl, ?_⟩) hHeld ?_ ?_
      rotate_left
      · rintro w' ⟨s0, s1, s2⟩
        go_simp
        with_reducible rfl
      rotate_left
      · simp only [Act.put, List.setIfInBounds_toArray, List.set_cons_zero, List.set_cons_succ, i64_w, i32_w]
        rfl
      refine take_ (i := 23) (N := some 38) (v := ?_) (a' := ?_) #[true, true, true, true, true, true, true, true, true, true, true, true, true, true, true, true, true, true, true, true, true, true, true, true, false, false, false] rfl rfl (take_ofW HT_.out HW_.out (by kernel_rfl)) (fun _ _ _ h => h) (Or.inl ⟨by rfl, ?_⟩) hHeld ?_ ?_
      rotate_left
      · rintro w' ⟨s0, s1, s2⟩
        go_simp
        with_reducible rfl
      rotate_left
      · simp only [Act.put, List.setIfInBounds_toArray, List.set_cons_zero, List.set_cons_succ, i64_w, i32_w]
        rfl
      refine one_ (i := 24) (N := some 39) #[true, true, true, true, true, true, true, true, true, true, true, true, true, true, true, true, true, true, true, true, true, true, true, true, true, false, false] rfl rfl (one_of HT_.out (by kernel_rfl)) (by decide) (fun K hK => ?_)
      refine value_ (v := .slice (some ⟨w2.heap.size, 0, none⟩) 1 1) (w1 := w2.alloc (.cells #[.int .i64 (1 + x.f0 % 3), .int .i64 (x.f1 % 20), .int .i64 (x.f2 % 6)] 59)) (by rfl) rfl (by go_simp) ?_
      have hba := below_alloc (Below.refl w2.heap.size w2) (.cells #[.int .i64 (1 + x.f0 % 3), .int .i64 (x.f1 % 20), .int .i64 (x.f2 % 6)] 59)
      have KA := Aside0.mk (And.intro (pw_cell_below hba KK.out.1) (And.intro (pw_cell_below hba KK.out.2.1) (pw_cell_below hba KK.out.2.2)))
      clear hba
      refine hK.out _ _ KA.out (fun hHeld => ?_)
      clear hK K
      refine norm_ (a' := ?_) ?_ ?_
      rotate_left
      · show Act.put _ (some 39) _ = _
        simp only [Act.put, List.setIfInBounds_toArray, List.set_cons_zero, List.set_cons_succ, i64_w, i32_w]
        rfl
      refine last_ (i := 25) (N := some 40) #[true, true, true, true, true, true, true, true, true, true, true, true, true, true, true, true, true, true, true, true, true, true, true, true, true, true, false] rfl rfl (one_of HT_.out (by kernel_rfl)) (by decide) (fun K hK => ?_)
      refine Kd.R_append_step k59 (w0 := w) (W := w2) w.heap.size (by rfl) (.tmp 15) (.tmp 39) 23 59 (.agg #[(.int .i64 0), (.int .i64 0), (.int .i64 0)]) 24 rfl Try.underlying23 info59 rfl (by decide) (by omega) _ xs (⟨1 + x.f0 % 3, x.f1 % 20, x.f2 % 6⟩ : S59) [.int .i64 (1 + x.f0 % 3), .int .i64 (x.f1 % 20), .int .i64 (x.f2 % 6)] (fun _ => True) (fun _ => False) rfl rfl (k59_mkM _ _ _ (⟨1 + x.f0 % 3, x.f1 % 20, x.f2 % 6⟩ : S59)) (fun _ hk => hk.elim) (fun _ _ => trivial) HR2.out HB2.out (HB2.out.size) (by omega) ?_
      intro v1 w3 hR3 hb3 hg3 hat3
      refine hK.out _ _ ?_
      clear hK K
      refine norm_ (a' := ?_) ?_ ?_
      rotate_left
      · show Act.put _ (some 40) _ = _
        simp only [Act.put, List.setIfInBounds_toArray, List.set_cons_zero, List.set_cons_succ, i64_w, i32_w]
        rfl
      refine pure_ (i := 26) (N := some 3) (v := ?_) (a' := ?_) #[true, true, true, true, true, true, true, true, true, true, true, true, true, true, true, true, true, true, true, true, true, true, true, true, true, true, true] rfl rfl (any_of HT_.out (by kernel_rfl)) (fun _ _ _ h => h) (Or.inl ⟨by rfl, ?_⟩) ?_ ?_
      rotate_left
      · intro w'
        go_simp
        with_reducible rfl
      rotate_left
      · simp only [Act.put, List.setIfInBounds_toArray, List.set_cons_zero, List.set_cons_succ, i64_w, i32_w]
        rfl
      refine done_ (done_of HT_.out (by kernel_rfl)) ?_
      go_wp2
      refine ⟨⟨i + 1, v1, by omega, by omega, rfl, by go_num, ⟨?_⟩, ⟨hb3⟩⟩, by simp [intOf]; omega⟩
      rw [HSU.out]
      exact hR3
    · have hd2 : decide ((i : Int) < 5) = false := decide_eq_false (by omega)
      obtain rfl : i = 5 := by omega
      have hne : l ≠ [] := fun e => by rw [e] at hlt; exact absurd hlt (by simp)
      obtain ⟨A3, c3, rfl, hc3, hC3⟩ := Kd.R_reads HR1.out
      have hl5' : ((l.take 5).map madeOne).length = 5 := by simp; omega
      have hf : (l.take 5).map madeOne = madeF l := by unfold madeF; rw [if_neg hne]
      rw [hf] at hl5' HR1
      have hnz : (((madeF l).length : Int) == 0) = false := by rw [hl5']; rfl
      have HL5 := Aside0.mk hl5'
      clear hC3 hc3 hf hl5'
      go_wp2
      go_ret
      have hfin := HR1.out
      rw [HL5.out] at hfin
      exact ⟨_, rfl, hfin, HB1.out⟩
  · have hd1 : decide ((i : Int) < (l.length : Int)) = false := decide_eq_false (by omega)
    obtain rfl : i = l.length := by omega
    by_cases hne : l = []
    · subst hne
      obtain ⟨A3, c3, rfl, hc3, hC3⟩ := Kd.R_reads HR1.out
      have hb4 := HB1.out.trans ((below_alloc (Below.refl wr.heap.size wr) (.cells #[.int .i64 1, .int .i64 0, .int .i64 0] 59)).mono HB1.out.size)
      have HB4 := Aside0.mk hb4
      clear hC3 hc3 hb4
      go_wp2
      go_ret
      refine ⟨_, rfl, ?_, HB4.out⟩
      have hown : (wr.alloc (.cells #[.int .i64 1, .int .i64 0, .int .i64 0] 59)).ownsRow w.heap.size 59 3 (.slice (some ⟨wr.heap.size, 0, none⟩) 1 1) 1 [.int .i64 1, .int .i64 0, .int .i64 0] :=
       ⟨by simp, .inr ⟨wr.heap.size, 1, #[.int .i64 1, .int .i64 0, .int .i64 0], rfl, HB1.out.size, blk_new wr _, Nat.le_refl _, by simp [maxLen], rfl, rfl⟩⟩
      exact ⟨fun _ _ => trivial, [.int .i64 1, .int .i64 0, .int .i64 0], hown, (Reps.none _ _).snoc (p := (⟨1, 0, 0⟩ : S59)) (c := [.int .i64 1, .int .i64 0, .int .i64 0]) (k59_mkM _ _ _ ⟨1, 0, 0⟩) rfl⟩
    · obtain ⟨A3, c3, rfl, hc3, hC3⟩ := Kd.R_reads HR1.out
      have hf : (l.take l.length).map madeOne = madeF l := by unfold madeF; rw [if_neg hne, List.take_of_length_le (Nat.le_refl _), List.take_of_length_le (by omega)]
      have hl5' : (madeF l).length = l.length := by rw [← hf]; simp
      rw [hf] at HR1
      rw [hf]
      have hpos : 0 < l.length := List.length_pos_iff.2 hne
      have hnz : (((madeF l).length : Int) == 0) = false := beq_eq_false_iff_ne.mpr (by omega)
      clear hC3 hc3 hf hl5'
      go_wp2
      go_ret
      exact ⟨_, rfl, HR1.out, HB1.out⟩

end Go.Proofs.Ytkocigldchiifaa.H

/- A take, opened; for the rows of chapter 07. -/
namespace Go.Proofs.Ytkocigldchiifaa.H
open Go.RowKit Go.Proofs.YtkocigldchiifaaW.PrintWords Go.Proofs.YtkocigldchiifaaW.PrintLast Go.Proofs.YtkocigldchiifaaW.PrintMore
open Go.ChangeShapes Go.WideShapes Go.Joins Go.Proofs.Ytkocigldchiifaa.QA
set_option linter.unusedVariables false
set_option linter.unusedSimpArgs false

theorem wf_byte {a : Int} (h : (Lit.int .u8 a).wf = true) : isByte a := by
 simp [Lit.wf, IntKind.min, IntKind.max, IntKind.signed, IntKind.bits] at h
 unfold isByte
 omega
theorem rows111 {W : World} {a : Addr} {len cap : Nat} (hl : len ≤ cap) (hm : cap ≤ maxLen)
  (hq : ∀ i, i < len → ∃ x : S59, Byte3 x ∧ W.cell? (a.add (i * 3)) = some (.int .u8 x.f0) ∧ W.cell? (a.add (i * 3 + 1)) = some (.int .u8 x.f1) ∧ W.cell? (a.add (i * 3 + 2)) = some (.int .u8 x.f2)) :
  ∃ l : List S59, len = l.length ∧ Kd.C k111 W (some a) l.length l ∧ ∀ x ∈ l, Byte3 x := by
 have hM : maxLen = 9223372036854775807 := rfl
 obtain ⟨F, hF⟩ : ∃ F : Nat → S59, ∀ i, i < len → Byte3 (F i) ∧ W.cell? (a.add (i * 3)) = some (.int .u8 (F i).f0) ∧ W.cell? (a.add (i * 3 + 1)) = some (.int .u8 (F i).f1) ∧ W.cell? (a.add (i * 3 + 2)) = some (.int .u8 (F i).f2) :=
  ⟨fun i => if h : i < len then (hq i h).choose else z59, fun i h => by dsimp only; rw [dif_pos h]; exact (hq i h).choose_spec⟩
 refine ⟨(List.range len).map F, by simp, ⟨rfl, by simp; omega, fun _ => ⟨a, rfl, fun j p hj => ?_⟩⟩, fun x hx => ?_⟩
 · have hjl : j < len := by have := (List.getElem?_eq_some_iff.1 hj).1; simpa using this
   rw [List.getElem?_map, List.getElem?_range hjl] at hj
   obtain rfl := Option.some.inj hj
   obtain ⟨_, h1, h2, h3⟩ := hF j hjl
   refine ⟨_, rfl, k111_mk _ _, fun i u hu => ?_⟩
   match i, hu with
   | 0, hu => rw [← Option.some.inj hu]; exact h1
   | 1, hu => rw [← Option.some.inj hu]; exact h2
   | 2, hu => rw [← Option.some.inj hu]; exact h3
 · obtain ⟨j, hj, rfl⟩ := List.mem_map.1 hx
   exact (hF j (by have := List.mem_range.1 hj; omega)).1
theorem trod_array3' {H : Type} {enc : TypeId × Value → H} {P : Program} {w : World} {base : Nat} {spare : Nat → Bool} {held : Bool} {t e : TypeId} {fuel : Nat} {c0 c1 c2 : Value} {x : DataW H × List MemPlace} (ht : P.underlying t = some (.array 3 e)) (hce : P.cellsOf e = 1)
  (h : DataW.trod enc P w base spare held fuel t [c0, c1, c2] = some x) : ∃ y0 y1 y2 n, DataW.trod enc P w base spare held n e [c0] = some y0 ∧ DataW.trod enc P w base spare held n e [c1] = some y1 ∧ DataW.trod enc P w base spare held n e [c2] = some y2 := by
 obtain ⟨xs, m, _, _, _, hl, hi⟩ := DataW.trod_array ht h
 match xs, hl with
 | [y0, y1, y2], _ => exact ⟨y0, y1, y2, m, by simpa [hce] using hi 0 (by omega), by simpa [hce] using hi 1 (by omega), by simpa [hce] using hi 2 (by omega)⟩
set_option maxRecDepth 100000 in
theorem open_take {H : Type} {enc : TypeId × Value → H} {W : World} {r : Reach} {b0 : Nat} {v : Value} {d : DataW H} {p : List MemPlace}
  (hv : Value.okWide Try.prog W r b0 55 v) (h : DataW.Trod enc Try.prog W 0 (fun _ => true) true 55 v d p) :
  ∃ A c l, v = .slice A l.length c ∧ l.length ≤ c ∧ Kd.C k111 W A l.length l ∧ ∀ x ∈ l, Byte3 x := by
 obtain ⟨A, n, c, rfl⟩ := okWide_slice Try.underlying55 hv
 have e5 : Try.prog.cellsOf 5 = 1 := by kernel_rfl
 have e55 : Try.prog.cellsOf 55 = 1 := by kernel_rfl
 have e111 : Try.prog.cellsOf 111 = 3 := by kernel_rfl
 have u55 : Try.prog.underlying 55 = some (.slice 111) := by kernel_rfl
 have u111 : Try.prog.underlying 111 = some (.array 3 5) := by kernel_rfl
 have u5 : Try.prog.underlying 5 = some (.int .u8) := by kernel_rfl
 obtain ⟨fuel, hf⟩ := h
 rcases Go.Deep.open_slice u55 hf with ⟨hcs, _⟩ | ⟨a, len, cap, m, n3, D, Pl, hcs, _, hl, hm, hmm, _, hel⟩
 · simp [Value.cells] at hcs
   obtain ⟨rfl, rfl, rfl⟩ := hcs
   exact ⟨none, 0, [], rfl, Nat.le_refl _, Kd.C_nil _ _, fun x hx => by simp at hx⟩
 · simp [Value.cells] at hcs
   obtain ⟨rfl, rfl, rfl⟩ := hcs
   obtain ⟨l, rfl, hC, hw⟩ := rows111 (W := W) (a := a) hl hm (fun i hi => by
    obtain ⟨cs', k1, k2⟩ := hel i (by rw [hmm]; simp; omega)
    rw [e111] at k1
    obtain ⟨_, kl, kc⟩ := World.cells?_some k1
    match cs', kl with
    | [x0, x1, x2], _ =>
     obtain ⟨y0, y1, y2, n4, t0, t1, t2⟩ := trod_array3' u111 e5 k2
     obtain ⟨b0, r0, _, v0⟩ := DataW.trod_int u5 t0
     obtain ⟨b1, r1, _, v1⟩ := DataW.trod_int u5 t1
     obtain ⟨b2, r2, _, v2⟩ := DataW.trod_int u5 t2
     simp only [List.cons.injEq, and_true] at r0 r1 r2
     subst r0 r1 r2
     refine ⟨⟨b0, b1, b2⟩, ⟨wf_byte v0, wf_byte v1, wf_byte v2⟩, ?_, ?_, ?_⟩
     · have := kc 0 (by omega)
       rw [Addr.add_add, Nat.add_zero] at this
       exact this
     · have := kc 1 (by omega)
       rw [Addr.add_add] at this
       exact this
     · have := kc 2 (by omega)
       rw [Addr.add_add] at this
       exact this)
   exact ⟨some a, _, l, rfl, hl, hC, hw⟩

end Go.Proofs.Ytkocigldchiifaa.H

/- Walks whose height is at most a number; the gap is the smallest such number. -/
namespace Go.Proofs.Ytkocigldchiifaa.H
open Go.RowKit Go.Proofs.YtkocigldchiifaaW.PrintWords Go.Proofs.YtkocigldchiifaaW.PrintLast Go.Proofs.YtkocigldchiifaaW.PrintMore
open Go.Shelf Go.Proofs.Ytkocigldchiifaa.QA
set_option linter.unusedVariables false
set_option linter.unusedSimpArgs false

def dist (a b : List S59) (i k : Int) : Int := farD (rd_T59 a i) (rd_T59 b k)
/-- A walk from a pair to the last one, no pair of which is above h. -/
inductive Way (a b : List S59) (h : Int) : Int → Int → Prop
 | last (i k : Int) : i = (a.length : Int) - 1 → k = (b.length : Int) - 1 → hasP a b i k = true → dist a b i k ≤ h → Way a b h i k
 | step (i k : Int) (q : S25) : hasP a b i k = true → dist a b i k ≤ h → q ∈ movesOf a b i k → Way a b h q.f0 q.f1 → Way a b h i k
theorem Way.has {a b : List S59} {h i k : Int} (hw : Way a b h i k) : hasP a b i k = true ∧ dist a b i k ≤ h := by
 cases hw with
 | last _ _ _ _ h1 h2 => exact ⟨h1, h2⟩
 | step _ _ q h1 h2 _ _ => exact ⟨h1, h2⟩
theorem mem_moves {a b : List S59} {i k : Int} {q : S25} : q ∈ movesOf a b i k ↔ hasP a b q.f0 q.f1 = true ∧ (q = ⟨i + 1, k + 1⟩ ∨ q = ⟨i + 1, k⟩ ∨ q = ⟨i, k + 1⟩) := by
 refine ⟨moves_mem, fun h => ?_⟩
 unfold movesOf movesTo cand
 refine List.mem_filter.2 ⟨?_, h.1⟩
 simpa using h.2
theorem foldl_min_le {α : Type} (f : α → Int) (l : List α) (x : Int) : l.foldl (fun m q => min m (f q)) x ≤ x ∧ ∀ q ∈ l, l.foldl (fun m q => min m (f q)) x ≤ f q := by
 induction l generalizing x with
 | nil => exact ⟨Int.le_refl _, fun q hq => by cases hq⟩
 | cons y l ih =>
  obtain ⟨h1, h2⟩ := ih (min x (f y))
  refine ⟨Int.le_trans h1 (Int.min_le_left _ _), fun q hq => ?_⟩
  rcases List.mem_cons.1 hq with rfl | hq
  · exact Int.le_trans h1 (Int.min_le_right _ _)
  · exact h2 q hq
theorem dist_in {a b : List S59} (hR : Rolls a b) {i k : Int} (h : hasP a b i k = true) : 0 ≤ dist a b i k ∧ dist a b i k ≤ 1000000 := by
 obtain ⟨h1, h2⟩ := (hasP_iff a b i k).1 h
 exact far_in (rd_good hR.ga i h1) (rd_good hR.gb k h2)
theorem moves_some {a b : List S59} {i k : Int} (h : hasP a b i k = true) (hl : ¬ (i = (a.length : Int) - 1 ∧ k = (b.length : Int) - 1)) : ∃ q, q ∈ movesOf a b i k := by
 obtain ⟨h1, h2⟩ := (hasP_iff a b i k).1 h
 by_cases h3 : i + 1 < a.length
 · exact ⟨⟨i + 1, k⟩, mem_moves.2 ⟨(hasP_iff a b _ _).2 ⟨⟨by show 0 ≤ i + 1; omega, h3⟩, h2⟩, by simp⟩⟩
 · exact ⟨⟨i, k + 1⟩, mem_moves.2 ⟨(hasP_iff a b _ _).2 ⟨h1, ⟨by show 0 ≤ k + 1; omega, by show k + 1 < _; omega⟩⟩, by simp⟩⟩
theorem way_of (a b : List S59) (hR : Rolls a b) (h : Int) : ∀ (n : Nat) (i k : Int), hasP a b i k = true → ((a.length : Int) - i) + ((b.length : Int) - k) ≤ n → restI a b i k ≤ h → Way a b h i k := by
 intro n
 induction n with
 | zero => intro i k hp hn _; have := (hasP_iff a b i k).1 hp; omega
 | succ n ih =>
  intro i k hp hn hle
  obtain ⟨h1, h2⟩ := (hasP_iff a b i k).1 hp
  rw [rest_eq a b i k h1 h2] at hle
  have hmx : ∀ x y : Int, mx x y ≤ h → x ≤ h ∧ y ≤ h := fun x y hxy => by unfold mx at hxy; split at hxy <;> omega
  obtain ⟨h3, h4⟩ := hmx _ _ hle
  by_cases hl : i = (a.length : Int) - 1 ∧ k = (b.length : Int) - 1
  · exact .last i k hl.1 hl.2 hp h4
  · rw [if_neg hl] at h3
    obtain ⟨q, hq, hqr⟩ : ∃ q ∈ movesOf a b i k, restI a b q.f0 q.f1 ≤ h := by
     by_cases hbig : 1000000 ≤ h
     · obtain ⟨q, hq⟩ := moves_some hp hl
       obtain ⟨h5, h6⟩ := (hasP_iff a b _ _).1 (moves_mem hq).1
       exact ⟨q, hq, Int.le_trans (rest_in a b hR (((a.length : Int) - q.f0) + ((b.length : Int) - q.f1)).toNat q.f0 q.f1 h5 h6 (by omega)).2 hbig⟩
     · by_cases hex : ∃ q ∈ movesOf a b i k, restI a b q.f0 q.f1 ≤ h
       · exact hex
       · exfalso
         have := foldl_min_gt (fun q : S25 => restI a b q.f0 q.f1) h (movesOf a b i k) 1000000 (by omega) (fun q hq => by
          by_cases h7 : restI a b q.f0 q.f1 ≤ h
          · exact absurd ⟨q, hq, h7⟩ hex
          · omega)
         omega
    refine .step i k q hp h4 hq (ih q.f0 q.f1 (moves_mem hq).1 ?_ hqr)
    rcases (moves_mem hq).2 with e | e | e <;> rw [e] <;> dsimp only <;> omega
theorem mx_le {x y h : Int} (hx : x ≤ h) (hy : y ≤ h) : mx x y ≤ h := by
 unfold mx
 split <;> omega
theorem rest_of {a b : List S59} (hR : Rolls a b) {h i k : Int} (hw : Way a b h i k) : restI a b i k ≤ h := by
 induction hw with
 | last i k e1 e2 hp hd =>
  obtain ⟨h1, h2⟩ := (hasP_iff a b i k).1 hp
  rw [rest_eq a b i k h1 h2, if_pos ⟨e1, e2⟩]
  exact mx_le (Int.le_trans (foldl_min_le (fun q : S25 => restI a b q.f0 q.f1) _ _).1 (Int.le_trans (dist_in hR hp).1 hd)) hd
 | step i k q hp hd hq hw ih =>
  obtain ⟨h1, h2⟩ := (hasP_iff a b i k).1 hp
  rw [rest_eq a b i k h1 h2]
  exact mx_le (Int.le_trans ((foldl_min_le (fun q : S25 => restI a b q.f0 q.f1) _ _).2 q hq) ih) hd
/-- The smallest height of the walks from a pair on is at most h just if there is such a walk. -/
theorem way_iff {a b : List S59} (hR : Rolls a b) {h i k : Int} (hp : hasP a b i k = true) : restI a b i k ≤ h ↔ Way a b h i k := by
 refine ⟨fun hle => way_of a b hR h (((a.length : Int) - i) + ((b.length : Int) - k)).toNat i k hp (by have := (hasP_iff a b i k).1 hp; omega) hle, rest_of hR⟩
theorem has0 {a b : List S59} (hR : Rolls a b) : hasP a b 0 0 = true := (hasP_iff a b 0 0).2 ⟨⟨by omega, by have := hR.ha; omega⟩, ⟨by omega, by have := hR.hb; omega⟩⟩
/-- The gap. -/
def gapI (a b : List S59) : Int := restI a b 0 0
theorem gap_iff {a b : List S59} (hR : Rolls a b) (h : Int) : gapI a b ≤ h ↔ Way a b h 0 0 := way_iff hR (has0 hR)
theorem farD_symm (x y : S59) : farD x y = farD y x := by
 unfold farD apartD mx
 by_cases h : x.f0 = y.f0
 · rw [if_pos h, if_pos h.symm]
   split <;> split <;> split <;> split <;> omega
 · rw [if_neg h, if_neg (Ne.symm h)]
theorem hasP_symm (a b : List S59) (i k : Int) : hasP b a k i = hasP a b i k := by
 unfold hasP
 rw [Bool.and_comm]
theorem Way.symm {a b : List S59} {h i k : Int} (hw : Way a b h i k) : Way b a h k i := by
 induction hw with
 | last i k e1 e2 hp hd => exact .last k i e2 e1 (by rw [hasP_symm]; exact hp) (by unfold dist at hd ⊢; rw [farD_symm]; exact hd)
 | step i k q hp hd hq hw ih =>
  refine .step k i ⟨q.f1, q.f0⟩ (by rw [hasP_symm]; exact hp) (by unfold dist at hd ⊢; rw [farD_symm]; exact hd) ?_ ih
  obtain ⟨h1, h2⟩ := moves_mem hq
  refine mem_moves.2 ⟨by rw [hasP_symm]; exact h1, ?_⟩
  rcases h2 with e | e | e <;> rw [e] <;> simp
theorem Rolls.symm {a b : List S59} (h : Rolls a b) : Rolls b a := ⟨h.hb, h.ha, h.gb, h.ga⟩
theorem eq_of_le {x y : Int} (h : ∀ n, x ≤ n ↔ y ≤ n) : x = y := Int.le_antisymm ((h y).2 (Int.le_refl _)) ((h x).1 (Int.le_refl _))
end Go.Proofs.Ytkocigldchiifaa.H

/- Takes are rolls. -/
namespace Go.Proofs.Ytkocigldchiifaa.H
open Go.RowKit Go.Proofs.YtkocigldchiifaaW.PrintWords Go.Proofs.YtkocigldchiifaaW.PrintLast Go.Proofs.YtkocigldchiifaaW.PrintMore
open Go.Shelf Go.Proofs.Ytkocigldchiifaa.QA
set_option linter.unusedVariables false
set_option linter.unusedSimpArgs false

theorem made_len (l : List S59) : 1 ≤ (madeF l).length ∧ (madeF l).length ≤ 5 := by
 unfold madeF
 split
 · simp
 · rename_i h
   have := List.length_pos_iff.2 h
   simp
   omega
theorem made_good {l : List S59} (hl : ∀ x ∈ l, Byte3 x) : ∀ x ∈ madeF l, goodB x = true := by
 have hone : ∀ x : S59, (1 ≤ x.f0 ∧ x.f0 ≤ 88) → (0 ≤ x.f1 ∧ x.f1 ≤ 1000) → (0 ≤ x.f2 ∧ x.f2 ≤ 1000) → goodB x = true := fun x h1 h2 h3 => by
  unfold goodB isIn
  simp only [Bool.and_eq_true, decide_eq_true_iff]
  exact ⟨h1, h2, h3⟩
 intro x hx
 unfold madeF at hx
 split at hx
 · rw [List.mem_singleton.1 hx]; exact hone _ (by decide) (by decide) (by decide)
 · obtain ⟨y, hy, rfl⟩ := List.mem_map.1 hx
   have hb := hl y (List.mem_of_mem_take hy)
   unfold Byte3 isByte at hb
   refine hone _ ?_ ?_ ?_ <;> (unfold madeOne; dsimp only; omega)
theorem chk_ok {l : List S59} (h1 : 1 ≤ l.length ∧ l.length ≤ 30) (h2 : ∀ x ∈ l, goodB x = true) : chk l = 0 := by
 unfold chk
 rw [if_neg (by omega), if_neg (by omega), if_neg]
 intro h
 obtain ⟨x, hx, h3⟩ := List.any_eq_true.1 h
 rw [h2 x hx] at h3
 cases h3
theorem check_ok {a b : List S59} (hR : Rolls a b) : align_Check.f a b = some 0 := by
 unfold align_Check.f
 rw [chk_ok hR.ha hR.ga, chk_ok hR.hb hR.gb]
 rfl
theorem made_rolls {l m : List S59} (hl : ∀ x ∈ l, Byte3 x) (hm : ∀ x ∈ m, Byte3 x) : Rolls (madeF l) (madeF m) :=
 ⟨by have := made_len l; omega, by have := made_len m; omega, made_good hl, made_good hm⟩
theorem gap_f {a b : List S59} (hR : Rolls a b) : align_Gap.f a b = some (gapI a b, 0) := by
 unfold align_Gap.f
 rw [check_ok hR]
 rfl

end Go.Proofs.Ytkocigldchiifaa.H
