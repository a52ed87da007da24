/- The walk of the law StepShifts: it returns true. Printed by gen_shifts.py of this session. -/
import Derived.Test.YtnbcdbkhpdpjgaaHU
import Derived.Test.YtnbcdbkhpdpjgaaI1
import Derived.Test.YtnbcdbkhpdpjgaaHB
namespace Go.Proofs.Ytnbcdbkhpdpjgaa.H
open Go.RowKit Go.Proofs.YtnbcdbkhpdpjgaaW.PrintWords Go.Proofs.YtnbcdbkhpdpjgaaW.PrintLast Go.Proofs.YtnbcdbkhpdpjgaaW.PrintMore
open Go.Proofs.Ytnbcdbkhpdpjgaa.QA
set_option linter.unusedVariables false
set_option linter.unusedSimpArgs false

theorem wf_u16 {a : Int} (h : (Lit.int .u16 a).wf = true) : 0 ≤ a ∧ a ≤ 65535 := by
 simp [Lit.wf, IntKind.min, IntKind.max, IntKind.signed, IntKind.bits] at h
 omega
theorem made_le {off s : Int} {cs rs : List (List Int)} {os : List Int} (h : Made off cs s os rs) : ∀ l ∈ cs, ∀ p ∈ l, 1 ≤ p ∧ p ≤ 3000 := fun l hl p hp => by
 obtain ⟨c, hc, rfl⟩ := List.getElem_of_mem hl
 obtain ⟨_, _, _, g4⟩ := h.inn c hc
 rw [getD_at cs c hc] at g4
 obtain ⟨k, hk, rfl⟩ := List.getElem_of_mem hp
 have g5 := g4 k hk
 rw [show cs[c].getD k 0 = cs[c][k] by rw [List.getD_eq_getElem?_getD, List.getElem?_eq_getElem hk]; rfl] at g5
 exact g5.1
theorem rd_at (l : List Int) (k : Nat) : rd l (k : Int) = l.getD k 0 := by unfold rd; rw [Int.toNat_natCast]
theorem rdL_at (l : List (List Int)) (k : Nat) : rd_L1 l (k : Int) = l.getD k [] := by unfold rd_L1; rw [Int.toNat_natCast]

theorem row_one {W : World} {g : Nat} {A0 : Option Addr} {lc : List Int} {cc : Nat} (hb : W.heap[g]? = some (.cells #[.slice A0 lc.length cc] 34 (0, 0))) (hcc : lc.length ≤ cc) (hC : Kd.C dN W A0 lc.length lc) : Kd.C dL W (some ⟨g, 0, none⟩) 1 [lc] := by
 refine ⟨rfl, by omega, fun _ => ⟨_, rfl, fun j p hj => ?_⟩⟩
 match j, hj with
 | 0, hj =>
  obtain rfl := Option.some.inj hj
  refine ⟨[.slice A0 lc.length cc], rfl, ⟨A0, cc, rfl, hcc, hC⟩, fun i u hu => ?_⟩
  match i, hu with
  | 0, hu =>
   rw [← Option.some.inj hu, add_plain]
   exact (blk_cell hb _).trans rfl
theorem S_fresh (W : World) (P : Nat → Prop) (hP : P W.heap.size) (B : Nat) (hB : B ≤ W.heap.size) : Kd.S dL 34 (W.alloc (.cells #[.slice none 0 0] 34)) B P (.slice (some ⟨W.heap.size, 0, none⟩) 1 1) [[]] := by
 refine S_one ⟨fun k hk => ?_, [.slice none 0 0], ?_, ?_⟩
 · have : W.heap.size = k := by simpa [Value.ownBlock] using hk
   rwa [← this]
 · have h2 := World.ownsRow_lit (base := B) (e := 34) (size := 1) W #[.slice none 0 0] 1 hB (by decide) (by simp)
   simpa [show dL.sz = 1 from rfl] using h2
 · exact Reps.one (show Kd.M dL _ _ _ [] [.slice none 0 0] from ⟨_, rfl, Kd.R_nil _ _ _ _ _⟩) (Reps.none _ _)
/-- One and many, and the rows that they hold. -/
structure Two (W w0 : World) (n8 : Nat) (A0 : Option Addr) (lc : List Int) (cc : Nat) : Prop where
 b1 : W.heap[n8]? = some (.cells #[.slice A0 lc.length cc] 34 (0, 0))
 bo : W.heap[n8 + 2]? = some (.cells #[.int .i64 0, .slice (some ⟨n8, 0, none⟩) 1 1] 24 (0, 0))
 bm : W.heap[n8 + 3]? = some (.cells #[.int .i64 0, .slice (some ⟨n8 + 1, 0, none⟩) 1 1] 24 (0, 0))
 hb : Below n8 w0 W
 hn : n8 = w0.heap.size
def okm (n8 k : Nat) : Prop := k = n8 + 1 ∨ n8 + 4 ≤ k
theorem Two.below {W W' w0 : World} {n8 cc : Nat} {A0 : Option Addr} {lc : List Int} (h : Two W w0 n8 A0 lc cc) (hbb : Below W.heap.size W W') : Two W' w0 n8 A0 lc cc :=
 ⟨blk_below h.b1 hbb, blk_below h.bo hbb, blk_below h.bm hbb, by have := h.hb; rw [h.hn] at this ⊢; exact below_then this this.size hbb, h.hn⟩
theorem Two.grown {W W' w0 : World} {n8 cc : Nat} {A0 : Option Addr} {lc : List Int} {row : Option Nat} (h : Two W w0 n8 A0 lc cc) (hg : W.grownBy W' row) (hr : ∀ k, row = some k → okm n8 k) (hB : Below n8 w0 W') : Two W' w0 n8 A0 lc cc :=
 ⟨blk_grown h.b1 hg (fun e => by have := hr _ e.symm; unfold okm at this; omega), blk_grown h.bo hg (fun e => by have := hr _ e.symm; unfold okm at this; omega), blk_grown h.bm hg (fun e => by have := hr _ e.symm; unfold okm at this; omega), hB, h.hn⟩
theorem two_start (W : World) (A0 : Option Addr) (lc : List Int) (cc : Nat) :
  Two ((((W.alloc (.cells #[.slice A0 lc.length cc] 34)).alloc (.cells #[.slice none 0 0] 34)).alloc (.cells #[.int .i64 0, .slice (some ⟨W.heap.size, 0, none⟩) 1 1] 24)).alloc (.cells #[.int .i64 0, .slice (some ⟨W.heap.size + 1, 0, none⟩) 1 1] 24)) W W.heap.size A0 lc cc ∧
  Kd.S dL 34 ((((W.alloc (.cells #[.slice A0 lc.length cc] 34)).alloc (.cells #[.slice none 0 0] 34)).alloc (.cells #[.int .i64 0, .slice (some ⟨W.heap.size, 0, none⟩) 1 1] 24)).alloc (.cells #[.int .i64 0, .slice (some ⟨W.heap.size + 1, 0, none⟩) 1 1] 24)) W.heap.size (okm W.heap.size) (.slice (some ⟨W.heap.size + 1, 0, none⟩) 1 1) [[]] := by
 refine ⟨⟨blk_alloc (blk_alloc (blk_alloc (blk_new W _) _) _) _, blk_alloc ?_ _, ?_, below_alloc (below_alloc (below_alloc (below_alloc (Below.refl _ _) _) _) _) _, rfl⟩, ?_⟩
 · have := blk_two (W.alloc (.cells #[.slice A0 lc.length cc] 34)) (.cells #[.slice none 0 0] 34) (.cells #[.int .i64 0, .slice (some ⟨W.heap.size, 0, none⟩) 1 1] 24)
   rwa [World.size_alloc] at this
 · have := blk_two ((W.alloc (.cells #[.slice A0 lc.length cc] 34)).alloc (.cells #[.slice none 0 0] 34)) (.cells #[.int .i64 0, .slice (some ⟨W.heap.size, 0, none⟩) 1 1] 24) (.cells #[.int .i64 0, .slice (some ⟨W.heap.size + 1, 0, none⟩) 1 1] 24)
   rwa [World.size_alloc, World.size_alloc] at this
 · have := S_fresh (W.alloc (.cells #[.slice A0 lc.length cc] 34)) (okm W.heap.size) (by rw [World.size_alloc]; exact .inl rfl) W.heap.size (by rw [World.size_alloc]; omega)
   rw [World.size_alloc] at this
   exact Kd.S_alloc (Kd.S_alloc this _) _
structure MulF (lc : List Int) (n : Int) (La Lb : List Int) : Prop where
 f1 : step_Steps.f 0 [lc] 1 50 = some (La, 0)
 f2 : step_Steps.f 0 [lc.map (n * ·)] 1 450 = some (Lb, 0)
 f3 : ∀ x ∈ La, (1 ≤ x ∧ x ≤ 50) ∧ n * x ∈ Lb
 f4 : La.length ≤ 50
 f5 : Lb.length ≤ 450
theorem mul_facts (lc : List Int) (n : Int) (h : (0 < lc.length ∧ lc.length ≤ 12 ∧ ∀ p ∈ lc, 0 ≤ p ∧ p ≤ 1000000) ∧ ∀ p ∈ lc, 1 ≤ p ∧ p ≤ 3000) (hn : 1 ≤ n ∧ n ≤ 9) : MulF lc n (stepsFrom 0 [lc] 50 1) (stepsFrom 0 [lc.map (n * ·)] 450 1) := by
 have hne : lc ≠ [] := fun e => by have := h.1.1; rw [e] at this; simp at this
 have v1 : Valid 0 [lc] := ⟨by omega, by simp, by simp, fun l hl => by rw [List.mem_singleton.1 hl]; exact h.1⟩
 have v2 : Valid 0 [lc.map (n * ·)] := ⟨by omega, by simp, by simp, fun l hl => by
  rw [List.mem_singleton.1 hl, List.length_map]
  refine ⟨h.1.1, h.1.2.1, fun q hq => ?_⟩
  obtain ⟨p, hp, rfl⟩ := List.mem_map.1 hq
  have h3 := h.2 p hp
  have m1 : 0 ≤ n * p := Int.mul_nonneg (by omega) (by omega)
  have m2 : n * p ≤ 9 * 3000 := Int.mul_le_mul (by omega) (by omega) (by omega) (by omega)
  show 0 ≤ n * p ∧ n * p ≤ 1000000
  omega⟩
 refine ⟨steps_of v1 1 50 (by omega) (by omega) (by omega), steps_of v2 1 450 (by omega) (by omega) (by omega), fun x hx => ?_, steps_len _ _ 50 1, steps_len _ _ 450 1⟩
 obtain ⟨h3, h4⟩ := (mem_steps 0 [lc] 50 1 x).1 hx
 have m1 : 1 * 1 ≤ n * x := Int.mul_le_mul (by omega) (by omega) (by omega) (by omega)
 have m2 : n * x ≤ 9 * 50 := Int.mul_le_mul (by omega) (by omega) (by omega) (by omega)
 exact ⟨by omega, (mem_steps 0 [lc.map (n * ·)] 450 1 (n * x)).2 ⟨by omega, fun l hl => by rw [List.mem_singleton.1 hl]; exact allows_mul x n lc (by omega) (by omega) hne (h4 lc (List.mem_singleton.2 rfl))⟩⟩
def shifts_T29 : Bool × List (List Nat × List Nat) := (true, [([], []), ([0], [0]), ([], []), ([2], [2]), ([3], [3]), ([4], [4]), ([], []), ([], []), ([6, 7], [6, 7]), ([8], [8]), ([5, 9], [5, 9]), ([1, 0, 1, 2, 3, 4, 5, 6, 7, 8, 9, 10], [1]), ([11, 10, 10, 0, 1, 2, 3, 4, 5, 6, 7, 8, 9, 10], [10, 11])])
def shifts_B29 : List Nat := [0, 1, 0, 4, 12, 28, 0, 0, 192, 448, 1020, 2047, 4095]
theorem shifts_tab29 : rtab .any (opsOf Try.f12 29) = shifts_T29 := by kernel_rfl
theorem shifts_bits29 : waitsOk shifts_T29.2 shifts_B29 = true := by kernel_rfl

set_option maxHeartbeats 8000000 in
set_option maxRecDepth 100000 in
theorem stepShifts_calls (a0 a1 a2 a3 a4 : Int) (A : Option Addr) (c : Nat) (l : List S92) (b1 b2 : Int) (w : World) (hr : Kd.C k92 w A l.length l) (hc : l.length ≤ c) (hok : mdOk a0 a1 a2 a3 a4 l) (h1 : 0 ≤ b1 ∧ b1 ≤ 65535) (h2 : isByte b2) :
  Calls Try.prog 12 #[.agg #[.int .u8 a0, .int .u8 a1, .int .u8 a2, .int .u8 a3, .int .u8 a4, .slice A l.length c], .int .u16 b1, .int .u8 b2] w fun e w' => e = .returned (.bool true) ∧ Below w.heap.size w w' := by
 have hu24 := Try.underlying24
 have hu59 := Try.underlying59
 have hu46 := Try.underlying46
 obtain ⟨off, cs, s, os, rs, hmd, hM⟩ := made_true a0 a1 a2 a3 a4 l hok
 unfold isByte at h2
 have HM := Aside0.mk hM
 have HMD := Aside0.mk hmd
 have HR := Aside0.mk hr
 have HY := Aside0.mk (And.intro h1 h2)
 have HL := Aside0.mk hM.hc
 have HYV := Aside0.mk (y_valid off b1 cs hM.valid (fun l hl p hp => (made_le hM l hl p hp).2) h1)
 clear hmd hr hM hok h1 h2
 go_enter Try.func12, Try.ntmps12
 go_wp2_with fail
 refine (pianolalaw01_Master_made.calls a0 a1 a2 a3 a4 A c l off cs s os rs _ (Kd.C_alloc HR.out _) hc HMD.out).mono ?_
 rintro e w1 ⟨v1, v2, v3, rfl, hS, hO, hR, hb⟩
 obtain ⟨gx, cx, rfl, _, _, _⟩ := Kd.S_form hS (by have := HL.out; omega)
 have HB := Aside0.mk (below_then (below_alloc (Below.refl w.heap.size w) _) (by simp) hb)
 obtain ⟨_, hcx, hC1⟩ := Kd.S_reads' hS
 have HC := Aside0.mk hC1
 clear hS hO hR hb hC1
 go_upto_region 3 with fail
 have BX := Aside0.mk (blk_alloc (blk_new w1 (.cells #[.int .i64 off, .slice (some ⟨gx, 0, none⟩) cs.length cx] 24)) (.cells #[.int .i64 1, .int .i64 50] 46))
 have BS := Aside0.mk (blk_two w1 (.cells #[.int .i64 off, .slice (some ⟨gx, 0, none⟩) cs.length cx] 24) (.cells #[.int .i64 1, .int .i64 50] 46))
 have hbb : Below w1.heap.size w1 ((w1.alloc (.cells #[.int .i64 off, .slice (some ⟨gx, 0, none⟩) cs.length cx] 24)).alloc (.cells #[.int .i64 1, .int .i64 50] 46)) := below_alloc (below_alloc (Below.refl _ _) _) _
 replace HB := Aside0.mk (below_then HB.out HB.out.size hbb)
 replace HC := Aside0.mk (Kd.C_below HC.out hbb)
 clear hbb
 generalize (w1.alloc (.cells #[.int .i64 off, .slice (some ⟨gx, 0, none⟩) cs.length cx] 24)).alloc (.cells #[.int .i64 1, .int .i64 50] 46) = w2 at BX BS HB HC ⊢
 generalize w1.heap.size = g7 at BX BS ⊢
 have k0 : w2.cell? ⟨g7, 0, none⟩ = some (.int .i64 off) := (blk_cell BX.out 0).trans rfl
 have k1 : w2.cell? ⟨g7, 1, none⟩ = some (.slice (some ⟨gx, 0, none⟩) cs.length cx) := (blk_cell BX.out 1).trans rfl
 have k2 : w2.cell? ⟨g7 + 1, 0, none⟩ = some (.int .i64 1) := (blk_cell BS.out 0).trans rfl
 have k3 : w2.cell? ⟨g7 + 1, 1, none⟩ = some (.int .i64 50) := (blk_cell BS.out 1).trans rfl
 obtain ⟨L, hL⟩ : ∃ L, L = stepsFrom off cs 50 1 := ⟨_, rfl⟩
 have HF1 := Aside0.mk (show step_Steps.f off cs 1 50 = some (L, 0) by rw [hL]; exact steps_of HM.out.valid 1 50 (by omega) (by omega) (by omega))
 have HF2 := Aside0.mk (show step_Steps.f off (yAll cs b1 cs.length) 1 50 = some (L, 0) by rw [steps_of HYV.out 1 50 (by omega) (by omega) (by omega), hL, y_steps off b1 cs HM.out.valid _ _ (by omega)]; rfl)
 have HF3 := Aside0.mk (show L.length ≤ 50 by rw [hL]; exact steps_len off cs 50 1)
 clear hL
 go_wp2_with fail
 refine (step_Steps.calls off (some ⟨gx, 0, none⟩) cx cs 1 50 L 0 _ HC.out hcx HF1.out).mono ?_
 rintro e w4 ⟨v, rfl, hR, hb⟩
 obtain ⟨AL, cL, rfl, hcL, hCL⟩ := Kd.R_reads hR
 replace HC := Aside0.mk (Kd.C_below HC.out hb)
 replace HB := Aside0.mk (below_then HB.out HB.out.size hb)
 replace BX := Aside0.mk (blk_below BX.out hb)
 replace BS := Aside0.mk (blk_below BS.out hb)
 have HCL := Aside0.mk hCL
 clear hR hCL hb k0 k1 k2 k3
 go_upto_region 5 with fail
 have BY := Aside0.mk (blk_new w4 (.cells #[.int .i64 0, .slice none 0 0] 24))
 have HW := Aside0.mk (below_alloc (Below.refl w4.heap.size w4) (.cells #[.int .i64 0, .slice none 0 0] 24))
 generalize w4.alloc (.cells #[.int .i64 0, .slice none 0 0] 24) = w5 at BY HW ⊢
 obtain ⟨gy, hgy⟩ : ∃ gy, gy = w4.heap.size := ⟨_, rfl⟩
 rw [← hgy] at BY ⊢
 have HGY := Aside0.mk (show w4.heap.size ≤ gy by omega)
 clear hgy
 have k0 : w5.cell? ⟨g7, 0, none⟩ = some (.int .i64 off) := (blk_cell (blk_below BX.out HW.out) 0).trans rfl
 have y0 : w5.cell? ⟨gy, 0, none⟩ = some (.int .i64 0) := (blk_cell BY.out 0).trans rfl
 have y1 : w5.frozen? ⟨gy, 0, none⟩ = false := blk_frozen BY.out 0
 go_upto_region 6 with fail
 clear k0 y0 y1
 replace BY := Aside0.mk (blk_put (cs' := #[.int .i64 off, .slice none 0 0]) BY.out 0 (.int .i64 off) rfl)
 replace HW := Aside0.mk (below_set (j := 0) (v := .int .i64 off) HW.out HGY.out)
 generalize w5.setCell ⟨gy, 0, none⟩ (.int .i64 off) = w6 at BY HW ⊢
 have k1 : w6.cell? ⟨g7, 1, none⟩ = some (.slice (some ⟨gx, 0, none⟩) cs.length cx) := (blk_cell (blk_below BX.out HW.out) 1).trans rfl
 go_wp2
 clear k1
 go_loopg [51] cs.length (fun gg s51 wr => ∃ (i : Nat) (vy : Value), s51 = .int .i64 i ∧ Aside0 (i ≤ cs.length ∧ cs.length - i ≤ gg) ∧ Aside0 (Kd.S dL 34 wr w4.heap.size (fun _ => True) vy (yAll cs b1 i)) ∧ Aside0 (wr.heap[gy]? = some (.cells #[.int .i64 off, vy] 24 (0, 0))) ∧ Aside0 (Below w4.heap.size w4 wr))
 case atStart => exact ⟨0, .slice none 0 0, rfl, ⟨by omega, by omega⟩, ⟨Kd.S_nil _ _ _ _ _⟩, BY, HW⟩
 case round =>
  clear BY HW
  obtain ⟨i, vy, rfl, HI, HS, BY, HW⟩ := hrel
  by_cases hi : i < cs.length
  · have j1 : decide ((i : Int) < (cs.length : Int)) = true := decide_eq_true (by omega)
    have HII := Aside0.mk hi
    obtain ⟨Ay, cy, rfl⟩ := Kd.S_slice HS.out
    obtain ⟨ci, hci⟩ : ∃ ci : Nat, ci = cs.length - 1 - i := ⟨_, rfl⟩
    have ei : wrap64 (wrap64 ((cs.length : Int) - 1) - (i : Int)) = (ci : Int) := by have := HL.out; rw [w64' ((cs.length : Int) - 1) (by omega) (by omega), w64' _ (by omega) (by omega)]; omega
    have n1 : ci < cs.length := by omega
    have k1 : wr.cell? ⟨g7, 1, none⟩ = some (.slice (some ⟨gx, 0, none⟩) cs.length cx) := (blk_cell (blk_below BX.out HW.out) 1).trans rfl
    obtain ⟨ac, Ac, cc, ec, hxc, hcc, hCc⟩ := at_L1 (Kd.C_below HC.out HW.out) (ci : Int) (by omega) (by omega)
    cases ec
    rw [add_plain, Int.toNat_natCast] at hxc
    have HCC := Aside0.mk hCc
    obtain ⟨lc, hlc⟩ : ∃ lc, lc = rd_L1 cs (ci : Int) := ⟨_, rfl⟩
    rw [← hlc] at hxc hcc HCC
    have hlm : lc ∈ cs := by rw [hlc]; exact row_mem ⟨by omega, by omega⟩
    have HLC := Aside0.mk (And.intro (HM.out.valid.2.2.2 lc hlm) (made_le HM.out lc hlm))
    have HYR := Aside0.mk (show yPart lc b1 (i = 0) lc.length = yRow cs b1 i by rw [hlc, rdL_at, hci]; exact yPart_all cs b1 i)
    clear hCc hlc hlm hci
    have HSB := Aside0.mk (Kd.S_mono (Kd.S_bound HS.out) (fun k hk => (hk.2.2.1 : k < wr.heap.size)))
    clear HS
    generalize wr = wO at HSB BY HW k1 hxc HCC ⊢
    go_upto_region 11 with fail
 
    have HLN := Aside0.mk hxc
    clear hxc ei n1 k1 hi
    go_wp2
    go_loopg [17, 66] lc.length (fun gg v17 s66 wi => ∃ k : Nat, s66 = .int .i64 k ∧ Aside0 (k ≤ lc.length ∧ lc.length - k ≤ gg) ∧ Aside0 (Kd.R dN 3 wi wO.heap.size (fun _ => True) v17 (yPart lc b1 (i = 0) k)) ∧ Aside0 (Below wO.heap.size wO wi))
    case atStart => exact ⟨0, rfl, ⟨by omega, by omega⟩, ⟨by rw [show yPart lc b1 (i = 0) 0 = [] by simp [yPart]]; exact Kd.R_nil _ _ _ _ _⟩, ⟨Below.refl _ _⟩⟩
    case round =>
     obtain ⟨k, rfl, HK, HO, HJ⟩ := hrel
     by_cases hk : k < lc.length
     · have u1 : decide ((k : Int) < (lc.length : Int)) = true := decide_eq_true (by omega)
       have HKK := Aside0.mk hk
       have HYL := Aside0.mk (yPart_len lc b1 (i = 0) k)
       obtain ⟨ck, hck⟩ : ∃ ck : Nat, ck = lc.length - 1 - k := ⟨_, rfl⟩
       have ek : wrap64 (wrap64 ((lc.length : Int) - 1) - (k : Int)) = (ck : Int) := by have := HLC.out.1; rw [w64' ((lc.length : Int) - 1) (by omega) (by omega), w64' _ (by omega) (by omega)]; omega
       have n2 : ck < lc.length := by omega
       obtain ⟨aq, eq, hxq⟩ := Kd.at_int HCC.out (ck : Int) (by omega) (by omega)
       subst eq
       rw [Int.toNat_natCast, rd_at] at hxq
       replace hxq := (HJ.out.cell (World.block_lt_of_cell? wO _ hxq)).trans hxq
       have hxm : lc.getD ck 0 ∈ lc := by rw [List.getD_eq_getElem?_getD, List.getElem?_eq_getElem n2]; exact List.getElem_mem _
       have HXB := Aside0.mk (And.intro (HLC.out.2 _ hxm) HY.out.1)
       obtain ⟨x, hx⟩ : ∃ x, x = lc.getD ck 0 := ⟨_, rfl⟩
       have HXE := Aside0.mk (show lc.getD (lc.length - 1 - k) 0 = x by rw [← hck]; exact hx.symm)
       rw [← hx] at hxq HXB
       clear hx hck hxm
       by_cases z : i = 0
       · have z1 : ((i : Int) == 0) = true := by rw [z]; rfl
         have HZ := Aside0.mk z
         have HSH := Aside0.mk (show wrap64 (x + wrap64 b1) = x + b1 by have := HXB.out; rw [w64' b1 (by omega) (by omega), w64' _ (by omega) (by omega)])
         clear z
         go_wp2_with ((with_reducible refine gate_builtin (b := .append) (xs := #[.tmp 83, .tmp 85]) rfl ?_); at_builtin; refine Kd.R_append dN (w0 := wO) wO.heap.size rfl (.tmp 83) (.tmp 85) 34 3 (.int .i64 0) 8 rfl Try.underlying34 info3 rfl (by decide) (by omega) u17 (yPart lc b1 (i = 0) k) (wrap64 (x + wrap64 b1)) [.int .i64 (wrap64 (x + wrap64 b1))] (fun _ => True) (fun _ => False) rfl rfl ?aP (fun _ hk => hk.elim) ?aF ?aO ?aB ?aS ?aL ?_; (case aP => exact rfl); (case aB => exact HJ.out); (case aF => exact fun _ _ => trivial); (case aO => exact Kd.R_mono HO.out (fun _ _ => by first | trivial | exact ⟨trivial, id⟩)); (case aS => exact HJ.out.size); (case aL => have h1 := HYL.out; have h2 := HKK.out; have h3 := HLC.out.1; omega); intro v5 w5 ho_ hb_ hg_ hat_; have HON := Aside0.mk ho_; have HJN := Aside0.mk hb_; clear ho_ hb_ hg_ hat_)
         go_roundg (lc.length - (k + 1))
         case measure => have := HK.out; have := HKK.out; omega
         case rel => exact ⟨k + 1, by rw [w64' _ (by omega) (by have := HLC.out.1; have := HKK.out; omega)]; rfl, ⟨by have := HKK.out; omega, Nat.le_refl _⟩, ⟨by rw [yPart_succ lc b1 (i = 0) k HKK.out, HXE.out, if_pos HZ.out, ← HSH.out]; exact HON.out⟩, HJN⟩
       · have z1 : ((i : Int) == 0) = false := beq_eq_false_iff_ne.mpr (by omega)
         have HZ := Aside0.mk z
         clear z
         go_wp2_with ((with_reducible refine gate_builtin (b := .append) (xs := #[.tmp 83, .tmp 85]) rfl ?_); at_builtin; refine Kd.R_append dN (w0 := wO) wO.heap.size rfl (.tmp 83) (.tmp 85) 34 3 (.int .i64 0) 8 rfl Try.underlying34 info3 rfl (by decide) (by omega) u17 (yPart lc b1 (i = 0) k) (x) [.int .i64 (x)] (fun _ => True) (fun _ => False) rfl rfl ?aP (fun _ hk => hk.elim) ?aF ?aO ?aB ?aS ?aL ?_; (case aP => exact rfl); (case aB => exact HJ.out); (case aF => exact fun _ _ => trivial); (case aO => exact Kd.R_mono HO.out (fun _ _ => by first | trivial | exact ⟨trivial, id⟩)); (case aS => exact HJ.out.size); (case aL => have h1 := HYL.out; have h2 := HKK.out; have h3 := HLC.out.1; omega); intro v5 w5 ho_ hb_ hg_ hat_; have HON := Aside0.mk ho_; have HJN := Aside0.mk hb_; clear ho_ hb_ hg_ hat_)
         go_roundg (lc.length - (k + 1))
         case measure => have := HK.out; have := HKK.out; omega
         case rel => exact ⟨k + 1, by rw [w64' _ (by omega) (by have := HLC.out.1; have := HKK.out; omega)]; rfl, ⟨by have := HKK.out; omega, Nat.le_refl _⟩, ⟨by rw [yPart_succ lc b1 (i = 0) k HKK.out, HXE.out, if_neg HZ.out]; exact HON.out⟩, HJN⟩
     · have u1 : decide ((k : Int) < (lc.length : Int)) = false := decide_eq_false (by omega)
       have hke : k = lc.length := by have := HK.out; omega
       subst hke
       have HJW := Aside0.mk (below_then HW.out HW.out.size HJ.out)
       have BYJ := Aside0.mk (blk_below BY.out HJ.out)
       have HSJ := Aside0.mk (Kd.S_below HSB.out HJ.out)
       have hrow := HO.out
       rw [HYR.out] at hrow
       obtain ⟨A17, c17, rfl⟩ := Kd.R_slice hrow
       have HROW := Aside0.mk hrow
       clear hrow HK HYR
       have y1 : wr.cell? ⟨gy, 1, none⟩ = some (.slice Ay (yAll cs b1 i).length cy) := (blk_cell BYJ.out 1).trans rfl
       have HZI := Aside0.mk (show (yAll cs b1 i).length ≤ 6 by have := HII.out; have := HL.out; unfold yAll; simp; omega)
       go_upto_region 20 with ((with_reducible refine gate_builtin (b := .append) (xs := #[.tmp 89, .tmp 91]) rfl ?_); at_builtin; refine Kd.S_append dL (w0 := w4) w4.heap.size rfl (.tmp 89) (.tmp 91) 22 34 (.slice none 0 0) 24 rfl Try.underlying22 info34 rfl (by decide) (by omega) (.slice Ay (yAll cs b1 i).length cy) (yAll cs b1 i) (yRow cs b1 i) [.slice A17 (yRow cs b1 i).length c17] (fun _ => True) (fun k => wO.heap.size ≤ k) rfl rfl ?aP ?aK ?aF ?aO ?aB ?aS ?aL ?_; (case aP => exact ⟨_, rfl, Kd.R_lower (Kd.R_mono (Kd.R_bound HROW.out) (fun k hk => hk.2.1)) HW.out.size⟩); (case aK => exact fun k hk => ⟨trivial, fun he => by have := (Kd.S_R HSJ.out).1 k he.symm; omega⟩); (case aF => exact fun _ _ => trivial); (case aO => exact Kd.S_mono HSJ.out (fun k hk => ⟨trivial, by omega⟩)); (case aB => exact HJW.out); (case aS => exact HJW.out.size); (case aL => have := HZI.out; omega); intro v1 wn hS hb hg hat; rw [← yAll_succ] at hS; obtain ⟨A1_, c1_, rfl⟩ := Kd.S_slice hS; have BYN := Aside0.mk (blk_grown BYJ.out hg (Kd.S_ne HSJ.out BYJ.out (by decide))); have HSN := Aside0.mk hS; have HWN := Aside0.mk hb; clear hS hb hg hat y1; have y1 : wn.cell? ⟨gy, 1, none⟩ = some (.slice Ay (yAll cs b1 i).length cy) := (blk_cell BYN.out 1).trans rfl; have y2 : wn.frozen? ⟨gy, 1, none⟩ = false := blk_frozen BYN.out 1)
       have HS2 := Aside0.mk (Kd.S_set HSN.out BYN.out (by decide) 1 (.slice A1_ (yAll cs b1 (i + 1)).length c1_))
       have BY2 := Aside0.mk (blk_put (cs' := #[.int .i64 off, .slice A1_ (yAll cs b1 (i + 1)).length c1_]) BYN.out 1 (.slice A1_ (yAll cs b1 (i + 1)).length c1_) rfl)
       have HW2 := Aside0.mk (below_set (j := 1) (v := .slice A1_ (yAll cs b1 (i + 1)).length c1_) HWN.out HGY.out)
       clear HSN BYN HWN y1 y2
       generalize wn.setCell ⟨gy, 1, none⟩ (.slice A1_ (yAll cs b1 (i + 1)).length c1_) = wm at HS2 BY2 HW2 ⊢
       go_wp2
       go_roundg (cs.length - (i + 1))
       case measure => have := HI.out; have := HII.out; omega
       case rel => exact ⟨i + 1, _, by rw [w64' _ (by omega) (by have := HL.out; have := HII.out; omega)]; rfl, ⟨by have := HII.out; omega, Nat.le_refl _⟩, HS2, BY2, HW2⟩
  · have j1 : decide ((i : Int) < (cs.length : Int)) = false := decide_eq_false (by omega)
    have hie : i = cs.length := by have := HI.out; omega
    subst hie
    obtain ⟨Ay, cy, rfl⟩ := Kd.S_slice HS.out
    obtain ⟨_, hcy, hC2⟩ := Kd.S_reads' HS.out
    have HCY := Aside0.mk hC2
    have k2 : wr.cell? ⟨g7 + 1, 0, none⟩ = some (.int .i64 1) := (blk_cell (blk_below BS.out HW.out) 0).trans rfl
    have k3 : wr.cell? ⟨g7 + 1, 1, none⟩ = some (.int .i64 50) := (blk_cell (blk_below BS.out HW.out) 1).trans rfl
    have y0 : wr.cell? ⟨gy, 0, none⟩ = some (.int .i64 off) := (blk_cell BY.out 0).trans rfl
    have y1 : wr.cell? ⟨gy, 1, none⟩ = some (.slice Ay (yAll cs b1 cs.length).length cy) := (blk_cell BY.out 1).trans rfl
    clear hC2 HS
    go_wp2_with fail
    refine (step_Steps.calls off Ay cy (yAll cs b1 cs.length) 1 50 L 0 _ HCY.out hcy HF2.out).mono ?_
    rintro e w7 ⟨v, rfl, hR, hb⟩
    obtain ⟨AK, cK, rfl, hcK, hCK⟩ := Kd.R_reads hR
    have HCK := Aside0.mk hCK
    have hW := below_then HW.out HW.out.size hb
    replace HW := Aside0.mk hW
    clear hR hCK hb hW k2 k3 y0 y1 HCY hcy BY j1 hi
    have HNU := Aside0.mk (numbers_f L (by have := HF3.out; omega) 4000 (by have := HF3.out; omega))
    go_wp2_with fail
    refine (pianolalaw01_numbers.calls 4000 AL cL L AK cK L true _ (Kd.C_below HCL.out HW.out) hcL HCK.out hcK HNU.out).mono ?_
    rintro e w8 ⟨rfl, hd⟩
    have hb := hd.below
    have hW := below_then HW.out HW.out.size hb
    replace HW := Aside0.mk hW
    clear hd hb hW HCK hcK HNU HI
    have k1 : w8.cell? ⟨g7, 1, none⟩ = some (.slice (some ⟨gx, 0, none⟩) cs.length cx) := (blk_cell (blk_below BX.out HW.out) 1).trans rfl
    obtain ⟨ac, Ac, cc, ec, hxc, hcc, hCc⟩ := at_L1 (Kd.C_below HC.out HW.out) ((0 : Nat) : Int) (by omega) (by have := HL.out; omega)
    cases ec
    rw [add_plain, Int.toNat_natCast] at hxc
    have HCC := Aside0.mk hCc
    obtain ⟨lc, hlc⟩ : ∃ lc, lc = rd_L1 cs ((0 : Nat) : Int) := ⟨_, rfl⟩
    rw [← hlc] at hxc hcc HCC
    have hlm : lc ∈ cs := by rw [hlc]; exact row_mem ⟨by omega, by have := HL.out; omega⟩
    have HLC := Aside0.mk (And.intro (HM.out.valid.2.2.2 lc hlm) (made_le HM.out lc hlm))
    have n0 : 0 < cs.length := by have := HL.out; omega
    clear hCc hlc hlm
    go_upto_region 25 with fail
 
    obtain ⟨h20, h21⟩ := two_start w8 Ac lc cc
    have HT := Aside0.mk h20
    have HS := Aside0.mk h21
    clear h20 h21
    generalize (((w8.alloc (.cells #[.slice Ac lc.length cc] 34)).alloc (.cells #[.slice none 0 0] 34)).alloc (.cells #[.int .i64 0, .slice (some ⟨w8.heap.size, 0, none⟩) 1 1] 24)).alloc (.cells #[.int .i64 0, .slice (some ⟨w8.heap.size + 1, 0, none⟩) 1 1] 24) = w9 at HT HS ⊢
    have HB89 := Aside0.mk HT.out.hb
    rw [show w8.heap.size + 1 + 1 = w8.heap.size + 2 from rfl, show w8.heap.size + 2 + 1 = w8.heap.size + 3 from rfl]
    have hxd := (HB89.out.cell (World.block_lt_of_cell? w8 _ hxc)).trans hxc
    have k1 : w9.cell? ⟨g7, 1, none⟩ = some (.slice (some ⟨gx, 0, none⟩) cs.length cx) := (HB89.out.cell (World.block_lt_of_cell? w8 _ k1)).trans k1
    obtain ⟨n8, hn8⟩ : ∃ n8, n8 = w8.heap.size := ⟨_, rfl⟩
    rw [← hn8] at HT HS HB89 ⊢
    have HN8 := Aside0.mk hn8
    clear hn8 hxc
    obtain ⟨n, hn⟩ : ∃ n, n = 1 + b2 % 9 := ⟨_, rfl⟩
    have HNB := Aside0.mk (show 1 ≤ n ∧ n ≤ 9 by omega)
    have hF := mul_facts lc n HLC.out HNB.out
    generalize stepsFrom 0 [lc] 50 1 = La at hF
    generalize stepsFrom 0 [lc.map (n * ·)] 450 1 = Lb at hF
    have HMF := Aside0.mk hF
    clear hF
    go_upto_region 26 with fail
    have en : wrap64 (1 + (wrap64 b2).tmod 9) = n := by
     have := HY.out.2
     rw [w64' b2 (by omega) (by omega), Int.tmod_eq_emod_of_nonneg (by omega), hn]
     exact w64' _ (by omega) (by omega)
    rw [en]
    clear en hn
    go_wp2
    clear k1 hxd n0
    go_loopg [130] lc.length (fun gg s130 wr => ∃ k : Nat, s130 = .int .i64 k ∧ Aside0 (k ≤ lc.length ∧ lc.length - k ≤ gg) ∧ Aside0 (Two wr w8 n8 Ac lc cc) ∧ Aside0 (Kd.S dL 34 wr n8 (okm n8) (.slice (some ⟨n8 + 1, 0, none⟩) 1 1) [((lc.take k).map (n * ·))]))
    case atStart => exact ⟨0, rfl, ⟨by omega, by omega⟩, HT, HS⟩
    case round =>
     clear HT HS
     obtain ⟨k, rfl, HK, HT, HS⟩ := hrel
     by_cases hk : k < lc.length
     · have u1 : decide ((k : Int) < (lc.length : Int)) = true := decide_eq_true (by omega)
       have HKK := Aside0.mk hk
       have HWr := Aside0.mk (show Below w8.heap.size w8 wr by have := HT.out.hb; rwa [HN8.out] at this)
       obtain ⟨aq, eq, hxq⟩ := Kd.at_int (Kd.C_below HCC.out HWr.out) (k : Int) (by omega) (by omega)
       subst eq
       rw [Int.toNat_natCast, rd_at] at hxq
       have hxm : lc.getD k 0 ∈ lc := by rw [List.getD_eq_getElem?_getD, List.getElem?_eq_getElem hk]; exact List.getElem_mem _
       have HXB := Aside0.mk (HLC.out.2 _ hxm)
       have HTK := Aside0.mk (show (lc.take (k + 1)).map (n * ·) = (lc.take k).map (n * ·) ++ [n * lc.getD k 0] by rw [List.take_succ_eq_append_getElem hk, List.map_append, List.getD_eq_getElem?_getD, List.getElem?_eq_getElem hk]; rfl)
       obtain ⟨x, hx⟩ : ∃ x, x = lc.getD k 0 := ⟨_, rfl⟩
       rw [← hx] at hxq HXB HTK
       clear hx hxm
       go_upto_region 29 with fail
       have hp : wrap64 (n * x) = n * x := by
        have h5 := HXB.out
        have h6 := HNB.out
        have m1 : 0 ≤ n * x := Int.mul_nonneg (by omega) (by omega)
        have m2 : n * x ≤ 9 * 3000 := Int.mul_le_mul (by omega) (by omega) (by omega) (by omega)
        exact w64' _ (by omega) (by omega)
       have HPX := Aside0.mk hp
       clear hp hxq
       have HRL := Aside0.mk (show ((lc.take k).map (n * ·)).length ≤ 12 by have := HLC.out.1; rw [List.length_map, List.length_take]; omega)
       obtain ⟨row, hrow⟩ : ∃ row, row = (lc.take k).map (n * ·) := ⟨_, rfl⟩
       rw [← hrow] at HS HTK HRL
       clear hrow
       obtain ⟨o, u, hle⟩ := lend (c := 0) HS.out (by omega)
       have HE := Aside0.mk (show LE n8 wr (okm n8) (n8 + 1) 1 1 [row] 0 o u u row from hle)
       clear hle HS
       refine start_ (n := 13) (S := fun w' => w'.cell? ⟨n8 + 3, 1, none⟩ = some (.slice (some ⟨n8 + 1, 0, none⟩) 1 1) ∧ w'.cell? ⟨n8 + 1, 0, none⟩ = some u) (ds := [12]) #[false, false, false, false, false, false, false, false, false, false, false, false, false] (by kernel_rfl) rfl rfl ⟨(blk_cell HT.out.bm 1).trans rfl, HE.out.cell⟩ (fun hHeld => ?_)
       refine with_tabW shifts_tab29 shifts_bits29 (fun HT_ HW_ => ?_)
       replace HT := Aside0.mk (HT.out.below (W' := wr.drew) (below_drew (Below.refl _ _)))
       replace HE := Aside0.mk (HE.out.below (w1 := wr.drew) (below_drew (Below.refl _ _)))
       generalize wr.drew = wB at HT HE hHeld ⊢
       refine pure_ (i := 0) (N := some 134) (v := ?_) (a' := ?_) #[true, false, false, false, false, false, false, false, false, false, false, false, false] rfl rfl (any_of HT_.out (by kernel_rfl)) (fun _ _ _ h => h) (Or.inl ⟨by rfl, ?_⟩) ?_ ?_
       rotate_left
       · intro w'
         go_simp
         with_reducible rfl
       rotate_left
       · simp only [Act.put, List.setIfInBounds_toArray, List.set_cons_zero, List.set_cons_succ, i64_w, i32_w]
         rfl
       refine take_ (i := 1) (N := some 135) (v := ?_) (a' := ?_) #[true, true, false, false, false, false, false, false, false, false, false, false, false] rfl rfl (take_ofW HT_.out HW_.out (by kernel_rfl)) (fun _ _ _ h => h) (Or.inl ⟨by rfl, ?_⟩) hHeld ?_ ?_
       rotate_left
       · rintro w' ⟨s0, s1⟩
         go_simp
         with_reducible rfl
       rotate_left
       · simp only [Act.put, List.setIfInBounds_toArray, List.set_cons_zero, List.set_cons_succ, i64_w, i32_w]
         rfl
       refine pure_ (i := 2) (N := some 136) (v := ?_) (a' := ?_) #[true, true, true, false, false, false, false, false, false, false, false, false, false] rfl rfl (any_of HT_.out (by kernel_rfl)) (fun _ _ _ h => h) (Or.inl ⟨by rfl, ?_⟩) ?_ ?_
       rotate_left
       · intro w'
         go_simp
         with_reducible rfl
       rotate_left
       · simp only [Act.put, List.setIfInBounds_toArray, List.set_cons_zero, List.set_cons_succ, i64_w, i32_w]
         rfl
       refine take_ (i := 3) (N := some 137) (v := ?_) (a' := ?_) #[true, true, true, true, false, false, false, false, false, false, false, false, false] rfl rfl (take_ofW HT_.out HW_.out (by kernel_rfl)) (fun _ _ _ h => h) (Or.inl ⟨by rfl, ?_⟩) hHeld ?_ ?_
       rotate_left
       · rintro w' ⟨s0, s1⟩
         go_simp
         with_reducible rfl
       rotate_left
       · simp only [Act.put, List.setIfInBounds_toArray, List.set_cons_zero, List.set_cons_succ, i64_w, i32_w]
         rfl
       refine pure_ (i := 4) (N := some 138) (v := ?_) (a' := ?_) #[true, true, true, true, true, false, false, false, false, false, false, false, false] rfl rfl (any_of HT_.out (by kernel_rfl)) (fun _ _ _ h => h) (Or.inl ⟨by rfl, ?_⟩) ?_ ?_
       rotate_left
       · intro w'
         go_simp
         with_reducible rfl
       rotate_left
       · simp only [Act.put, List.setIfInBounds_toArray, List.set_cons_zero, List.set_cons_succ, i64_w, i32_w]
         rfl
       refine take_ (i := 5) (N := some 139) (v := ?_) (a' := ?_) #[true, true, true, true, true, true, false, false, false, false, false, false, false] rfl rfl (take_ofW HT_.out HW_.out (by kernel_rfl)) (fun _ _ _ h => h) (Or.inl ⟨by rfl, ?_⟩) hHeld ?_ ?_
       rotate_left
       · rintro w' ⟨s0, s1⟩
         go_simp
         with_reducible rfl
       rotate_left
       · simp only [Act.put, List.setIfInBounds_toArray, List.set_cons_zero, List.set_cons_succ, i64_w, i32_w]
         rfl
       refine pure_ (i := 6) (N := some 140) (v := ?_) (a' := ?_) #[true, true, true, true, true, true, true, false, false, false, false, false, false] rfl rfl (any_of HT_.out (by kernel_rfl)) (fun _ _ _ h => h) (Or.inl ⟨by rfl, ?_⟩) ?_ ?_
       rotate_left
       · intro w'
         go_simp
         with_reducible rfl
       rotate_left
       · simp only [Act.put, List.setIfInBounds_toArray, List.set_cons_zero, List.set_cons_succ, i64_w, i32_w]
         rfl
       refine pure_ (i := 7) (N := some 141) (v := ?_) (a' := ?_) #[true, true, true, true, true, true, true, true, false, false, false, false, false] rfl rfl (any_of HT_.out (by kernel_rfl)) (fun _ _ _ h => h) (Or.inl ⟨by rfl, ?_⟩) ?_ ?_
       rotate_left
       · intro w'
         go_simp
         with_reducible rfl
       rotate_left
       · simp only [Act.put, List.setIfInBounds_toArray, List.set_cons_zero, List.set_cons_succ, i64_w, i32_w]
         rfl
       refine pure_ (i := 8) (N := some 142) (v := ?_) (a' := ?_) #[true, true, true, true, true, true, true, true, true, false, false, false, false] rfl rfl (any_of HT_.out (by kernel_rfl)) (fun _ _ _ h => h) (Or.inl ⟨by rfl, ?_⟩) ?_ ?_
       rotate_left
       · intro w'
         go_simp
         with_reducible rfl
       rotate_left
       · simp only [Act.put, List.setIfInBounds_toArray, List.set_cons_zero, List.set_cons_succ, i64_w, i32_w]
         rfl
       refine one_ (i := 9) (N := some 143) #[true, true, true, true, true, true, true, true, true, true, false, false, false] rfl rfl (one_of HT_.out (by kernel_rfl)) (by decide) (fun K hK => ?_)
       refine Kd.R_lit_step dN _ 3 ?hg (N := 143) ?hd (xs := ([(wrap64 (n * x))] : List Int)) (inner := [.int .i64 (wrap64 (n * x))]) (ok := fun _ => True) (okp := fun _ => True) ?hr ?hp (fun _ hk => hk) trivial (Below.refl _ _) (Nat.le_refl _) (by simp) ?_
       (case hd => rfl)
       (case hg => rfl)
       (case hr => first | (go_simp; done) | (go_simp; rfl))
       (case hp => exact (Reps.one (show Kd.M dN _ _ _ (wrap64 (n * x)) [.int .i64 (wrap64 (n * x))] from rfl) (Reps.none _ _)))
       intro v143 wC ho_ hb_ hg_ hnew_
       have L1 := Aside0.mk ho_
       replace HT := Aside0.mk (HT.out.below hb_)
       replace HE := Aside0.mk (HE.out.below hb_)
       clear ho_ hb_ hg_ hnew_
       obtain ⟨AL1, cL1, rfl⟩ := Kd.R_slice L1.out
       refine hK.out _ _ ⟨(blk_cell HT.out.bm 1).trans rfl, HE.out.cell⟩ (fun hHeld => ?_)
       clear hK K
       refine norm_ (a' := ?_) ?_ ?_
       rotate_left
       · show Act.put _ (some 143) _ = _
         simp only [Act.put, List.setIfInBounds_toArray, List.set_cons_zero, List.set_cons_succ, i64_w, i32_w]
         rfl
       refine one_ (i := 10) (N := some 144) #[true, true, true, true, true, true, true, true, true, true, true, false, false] rfl rfl (one_of HT_.out (by kernel_rfl)) (by decide) (fun K hK => ?_)
       refine Kd.R_append_rows_step dN (w0 := w8) n8 (by rfl) (.tmp 139) (.tmp 143) 34 3 (.int .i64 0) 8 rfl Try.underlying34 info3 rfl (by decide) (by omega) u row [(wrap64 (n * x))] _ _ _ (fun k => o k ∨ wC.heap.size ≤ k) (fun _ => False) rfl rfl ?aO ?aR (fun _ _ h => h) (fun _ h => h.elim) ?aF ?aB ?aS ?aL ?_
       (case aO => exact Kd.R_mono HE.out.R (fun k hk => .inl hk))
       (case aR => exact (Kd.R_reads' L1.out).2.2)
       (case aF => exact fun k hk => .inr hk)
       (case aB => exact HT.out.hb)
       (case aS => have := blk_lt HT.out.bm; omega)
       (case aL => have h1 := HRL.out; simp only [List.length_cons, List.length_nil]; omega)
       intro v144 wD ho_ hb_ hg_ hat_
       have hlt := blk_lt HT.out.bm
       have HLT := Aside0.mk (show n8 + 4 ≤ wC.heap.size by omega)
       replace HT := Aside0.mk (HT.out.grown hg_ (fun k hk => HE.out.H.1 k (HE.out.R.1 k hk)) hb_)
       replace HE := Aside0.mk (HE.out.app ho_ hg_)
       clear ho_ hb_ hg_ hat_ L1 hlt
       obtain ⟨A144, c144, e144⟩ := Kd.R_slice HE.out.R
       simp only [List.length_append, List.length_cons, List.length_nil, Nat.zero_add] at e144
       subst e144
       refine hK.out _ _ ⟨(blk_cell HT.out.bm 1).trans rfl, HE.out.cell⟩ (fun hHeld => ?_)
       clear hK K
       refine norm_ (a' := ?_) ?_ ?_
       rotate_left
       · show Act.put _ (some 144) _ = _
         simp only [Act.put, List.setIfInBounds_toArray, List.set_cons_zero, List.set_cons_succ, i64_w, i32_w]
         rfl
       refine pure_ (i := 11) (N := some 145) (v := ?_) (a' := ?_) #[true, true, true, true, true, true, true, true, true, true, true, true, false] rfl rfl (any_of HT_.out (by kernel_rfl)) (fun _ _ _ h => h) (Or.inl ⟨by rfl, ?_⟩) ?_ ?_
       rotate_left
       · intro w'
         go_simp
         with_reducible rfl
       rotate_left
       · simp only [Act.put, List.setIfInBounds_toArray, List.set_cons_zero, List.set_cons_succ, i64_w, i32_w]
         rfl
       refine last_ (i := 12) (N := none) #[true, true, true, true, true, true, true, true, true, true, true, true, true] rfl rfl (one_of HT_.out (by kernel_rfl)) (by decide) (fun K hK => ?_)
       have s1 := HE.out.cell
       have s2 := HE.out.frozen
       obtain ⟨f1, f2⟩ := HE.out.back (by omega) (Kd.R_val HE.out.R).2
       refine store_step (w1 := wD.setCell ⟨n8 + 1, 0, none⟩ (.slice (A144) (row.length + 1) c144)) (by rfl) rfl ?hr ?_
       (case hr => first | (go_simp; done) | (go_simp; rfl))
       refine hK.out _ _ ?_
       clear hK K s1 s2
       have f3 := HT.out.grown f2 (fun k hk => by injection hk with hk; rw [← hk]; exact .inl rfl) (HT.out.hb.setCell (show n8 ≤ (⟨n8 + 1, 0, none⟩ : Addr).block by show n8 ≤ n8 + 1; omega) _)
       generalize wD.setCell ⟨n8 + 1, 0, none⟩ (.slice (A144) (row.length + 1) c144) = wE at f1 f3 ⊢
       have HTE := Aside0.mk f3
       have HSE := Aside0.mk (Kd.S_mono f1 (fun k hk => hk.1.elim id (fun h => .inr (by have := HLT.out; omega))))
       clear f1 f2 f3 hHeld HT HE
       refine done_ (done_of HT_.out (by kernel_rfl)) ?_
       clear HT_ HW_
       go_wp2
       go_roundg (lc.length - (k + 1))
       case measure => have := HK.out; have := HKK.out; omega
       case rel => exact ⟨k + 1, by rw [w64' _ (by omega) (by have := HLC.out.1; have := HKK.out; omega)]; rfl, ⟨by have := HKK.out; omega, Nat.le_refl _⟩, HTE, ⟨by rw [HTK.out, ← HPX.out]; exact HSE.out⟩⟩
     · have u1 : decide ((k : Int) < (lc.length : Int)) = false := decide_eq_false (by omega)
       have hke : k = lc.length := by have := HK.out; omega
       subst hke
       have hS := HS.out
       rw [List.take_length] at hS
       have HWr := Aside0.mk (show Below w8.heap.size w8 wr by have := HT.out.hb; rwa [HN8.out] at this)
       have HW4 := Aside0.mk (below_then HW.out HW.out.size HWr.out)
       have HC1 := Aside0.mk (row_one HT.out.b1 hcc (Kd.C_below HCC.out HWr.out))
       have HC2 := Aside0.mk (Kd.S_reads' hS).2.2
       have k2 : wr.cell? ⟨g7 + 1, 0, none⟩ = some (.int .i64 1) := (blk_cell (blk_below BS.out HW4.out) 0).trans rfl
       have k3 : wr.cell? ⟨g7 + 1, 1, none⟩ = some (.int .i64 50) := (blk_cell (blk_below BS.out HW4.out) 1).trans rfl
       have y0 : wr.cell? ⟨n8 + 2, 0, none⟩ = some (.int .i64 0) := (blk_cell HT.out.bo 0).trans rfl
       have y1 : wr.cell? ⟨n8 + 2, 1, none⟩ = some (.slice (some ⟨n8, 0, none⟩) 1 1) := (blk_cell HT.out.bo 1).trans rfl
       clear hS HS hk
       go_wp2_with fail
       refine (step_Steps.calls 0 (some ⟨n8, 0, none⟩) 1 [lc] 1 50 La 0 _ HC1.out (Nat.le_refl _) HMF.out.f1).mono ?_
       rintro e wF ⟨v, rfl, hR, hb⟩
       obtain ⟨AA, cA, rfl, hcA, hCA⟩ := Kd.R_reads hR
       have HCA := Aside0.mk hCA
       replace HT := Aside0.mk (HT.out.below hb)
       replace HC2 := Aside0.mk (Kd.C_below HC2.out hb)
       replace HW4 := Aside0.mk (below_then HW4.out HW4.out.size hb)
       clear hR hCA hb k2 k3 y0 y1 u1
       have y0 : wF.cell? ⟨n8 + 3, 0, none⟩ = some (.int .i64 0) := (blk_cell HT.out.bm 0).trans rfl
       have y1 : wF.cell? ⟨n8 + 3, 1, none⟩ = some (.slice (some ⟨n8 + 1, 0, none⟩) 1 1) := (blk_cell HT.out.bm 1).trans rfl
       go_wp2_with fail
       refine (step_Steps.calls 0 (some ⟨n8 + 1, 0, none⟩) 1 [lc.map (n * ·)] 1 450 Lb 0 _ HC2.out (Nat.le_refl _) HMF.out.f2).mono ?_
       rintro e wG ⟨v, rfl, hR, hb⟩
       obtain ⟨AB, cB, rfl, hcB, hCB⟩ := Kd.R_reads hR
       have HCB := Aside0.mk hCB
       replace HCA := Aside0.mk (Kd.C_below HCA.out hb)
       replace HW4 := Aside0.mk (below_then HW4.out HW4.out.size hb)
       clear hR hCB hb y0 y1
       go_wp2
       go_loopg [167] La.length (fun gg s167 wi => ∃ t : Nat, s167 = .int .i64 t ∧ Aside0 (t ≤ La.length ∧ La.length - t ≤ gg) ∧ Aside0 (Below wG.heap.size wG wi))
       case atStart => exact ⟨0, rfl, ⟨by omega, by omega⟩, ⟨Below.refl _ _⟩⟩
       case round =>
        obtain ⟨t, rfl, HTT, HI⟩ := hrel
        by_cases ht : t < La.length
        · have u1 : decide ((t : Int) < (La.length : Int)) = true := decide_eq_true (by omega)
          have HTL := Aside0.mk ht
          obtain ⟨aq, eq, hxq⟩ := Kd.at_int HCA.out (t : Int) (by omega) (by omega)
          subst eq
          have hm : rd La (t : Int) ∈ La := by unfold rd; rw [Int.toNat_natCast, List.getD_eq_getElem?_getD, List.getElem?_eq_getElem ht]; exact List.getElem_mem ht
          have hf := HMF.out.f3 _ hm
          rw [Int.toNat_natCast] at hxq
          replace hxq := (HI.out.cell (World.block_lt_of_cell? wG _ hxq)).trans hxq
          generalize rd La (t : Int) = x at hxq hf
          have hp : wrap64 (n * x) = n * x := by
           have h6 := HNB.out
           have m1 : 0 ≤ n * x := Int.mul_nonneg (by omega) (by omega)
           have m2 : n * x ≤ 9 * 50 := Int.mul_le_mul (by omega) (by omega) (by omega) (by omega)
           exact w64' _ (by omega) (by omega)
          have HHF := Aside0.mk (show pianolalaw01_has.f 1000 Lb (wrap64 (n * x)) = some true by rw [hp, has_f Lb _ (by have := HMF.out.f5; omega) 1000 (by have := HMF.out.f5; omega), decide_eq_true hf.2])
          clear hm hf hp
          go_wp2_with fail
          refine (pianolalaw01_has.calls 1000 AB cB Lb (wrap64 (n * x)) true _ (Kd.C_below HCB.out HI.out) hcB HHF.out).mono ?_
          rintro e w5 ⟨rfl, hd⟩
          have hI := below_then HI.out HI.out.size hd.below
          replace HI := Aside0.mk hI
          clear hd hI hxq
          go_wp2
          go_roundg (La.length - (t + 1))
          case measure => have := HTT.out; have := HTL.out; omega
          case rel => exact ⟨t + 1, by rw [w64' _ (by omega) (by have := HMF.out.f4; have := HTL.out; omega)]; rfl, ⟨by have := HTL.out; omega, Nat.le_refl _⟩, HI⟩
        · have u1 : decide ((t : Int) < (La.length : Int)) = false := decide_eq_false (by omega)
          have HWI := Aside0.mk (below_then HW4.out HW4.out.size HI.out)
          go_wp2_with fail
          refine (works_calls _).mono ?_
          rintro e w7 ⟨rfl, hb⟩
          replace HWI := Aside0.mk (below_then HWI.out HWI.out.size hb)
          clear hb
          go_wp2
          go_ret
          exact ⟨rfl, below_then HB.out HB.out.size HWI.out⟩

end Go.Proofs.Ytnbcdbkhpdpjgaa.H
