/- Plain laws of StepTruth: what is true of a master is among what is returned. -/
import Derived.Test.YtnbcdbkhpdpjgaaHW
import Derived.Test.YtnbcdbkhpdpjgaaHG
import Derived.Test.YtnbcdbkhpdpjgaaHO
namespace Go.Proofs.Ytnbcdbkhpdpjgaa.H
open Go.RowKit Go.Proofs.YtnbcdbkhpdpjgaaW.PrintWords Go.Proofs.YtnbcdbkhpdpjgaaW.PrintLast Go.Proofs.YtnbcdbkhpdpjgaaW.PrintMore
open Go.Proofs.Ytnbcdbkhpdpjgaa.QA
set_option linter.unusedVariables false
set_option linter.unusedSimpArgs false

theorem tr_fit {s off o p r : Int} (hs : 0 < s) (h : Tr s off o p r) : (o + off - p) % s ≤ 2 * off := by
 unfold Tr at h
 obtain ⟨_, _, h1, h2⟩ := h
 have e : o + off - p = (off - (p - o - r * s)) + s * (-r) := by rw [Int.mul_neg, Int.mul_comm s r]; omega
 rw [e, Int.add_mul_emod_self_left]
 generalize p - o - r * s = d at *
 have h3 : 0 ≤ off - d := by omega
 have := Int.emod_add_mul_ediv (off - d) s
 have h6 : 0 ≤ (off - d) / s := Int.ediv_nonneg h3 (by omega)
 have h7 : 0 ≤ s * ((off - d) / s) := Int.mul_nonneg (by omega) h6
 omega
theorem tr_row {s off o p r : Int} (hs : 0 < s) (h : Tr s off o p r) : (rowAt off s o p).f0 ≤ r ∧ r ≤ (rowAt off s o p).f1 := by
 unfold Tr at h
 obtain ⟨_, _, h1, h2⟩ := h
 show lowRow off p s o ≤ r ∧ r ≤ highRow off p s o
 unfold lowRow highRow
 have g1 : -r ≤ (o + off - p) / s := (Int.le_ediv_iff_mul_le hs).2 (by rw [Int.neg_mul]; omega)
 have g2 : r ≤ (p - o + off) / s := (Int.le_ediv_iff_mul_le hs).2 (by omega)
 omega
theorem bit8 : ∀ m : Nat, m < 256 → ∀ k : Nat, k < 8 → ((Go.bits .and .u8 ((m : Int) / 2 ^ min k 8) 1 == 1) = m.testBit k) := by decide +kernel
theorem made_row (cs rs : List (List Int)) (os : List Int) (i : Nat) : rd_L1 cs (i : Int) = cs.getD i [] ∧ rd_L1 rs (i : Int) = rs.getD i [] ∧ rd os (i : Int) = os.getD i 0 := ⟨by unfold rd_L1; rw [Int.toNat_natCast], by unfold rd_L1; rw [Int.toNat_natCast], by unfold rd; rw [Int.toNat_natCast]⟩
section
variable {off s : Int} {cs rs : List (List Int)} {os : List Int} (h : Made off cs s os rs)
include h
theorem made_fits {i : Nat} (hi : i < cs.length) : ∀ p ∈ rd_L1 cs (i : Int), (rd os (i : Int) + off - p) % s ≤ 2 * off := fun p hp => by
 obtain ⟨e1, e2, e3⟩ := made_row cs rs os i
 rw [e1] at hp
 rw [e3]
 obtain ⟨k, hk, rfl⟩ := List.getElem_of_mem hp
 have g := (h.inn i hi).2.2.2 k hk
 rw [show (cs.getD i []).getD k 0 = (cs.getD i [])[k] by rw [List.getD_eq_getElem?_getD, List.getElem?_eq_getElem hk]; rfl] at g
 exact tr_fit (by have := h.hs; omega) g
theorem made_all {i : Nat} (hi : i < cs.length) : (rd_L1 cs (i : Int)).all (fitB off s (rd os (i : Int))) = true :=
 List.all_eq_true.2 fun p hp => by rw [fit_mod off s _ p (by have := h.hs; omega)]; exact decide_eq_true (made_fits h hi p hp)
theorem made_len0 {i : Nat} (hi : i < cs.length) : 1 ≤ (rd_L1 cs (i : Int)).length ∧ (rd_L1 cs (i : Int)).length ≤ 5 ∧ (rd_L1 rs (i : Int)).length = (rd_L1 cs (i : Int)).length ∧ 0 ≤ rd os (i : Int) ∧ rd os (i : Int) < s := by
 obtain ⟨e1, e2, e3⟩ := made_row cs rs os i
 obtain ⟨g1, g2, g3, _⟩ := h.inn i hi
 rw [e1, e2, e3]
 exact ⟨g2.1, g2.2, g3, g1.1, g1.2⟩
theorem made_allow {i : Nat} (hi : i < cs.length) : allowsB off s (rd_L1 cs (i : Int)) = true := by
 obtain ⟨g1, g2, g3, g4, g5⟩ := made_len0 h hi
 exact (allows_iff off s _ (by have := h.hs; omega) h.ho.1 (fun e => by rw [e] at g1; simp at g1)).2 ⟨rd os (i : Int), ⟨g4, g5⟩, made_fits h hi⟩
theorem made_step : s ∈ stepsFrom off cs 60 1 := (mem_steps off cs 60 1 s).2 ⟨by have := h.hs; omega, fun l hl => by
 obtain ⟨c, hc, rfl⟩ := List.getElem_of_mem hl
 have e := (made_row cs rs os c).1
 have := made_allow h hc
 rwa [e, show cs.getD c [] = cs[c] by rw [List.getD_eq_getElem?_getD, List.getElem?_eq_getElem hc]; rfl] at this⟩
theorem made_off {i : Nat} (hi : i < cs.length) : rd os (i : Int) ∈ offsOf off s (rd_L1 cs (i : Int)) :=
 (offs_mem' off s _ _ (by have := h.hs; omega) h.ho.1).2 ⟨(made_len0 h hi).2.2.2, made_all h hi⟩
theorem made_offsets {i : Nat} (hi : i < cs.length) : step_Offsets.f off cs (i : Int) s = some (offsOf off s (rd_L1 cs (i : Int)), 0) :=
 offsets_of h.valid (i : Int) s ⟨by omega, by omega⟩ (by have := h.hs; omega)
theorem made_rows {i : Nat} (hi : i < cs.length) : step_Rows.f 20 off cs (i : Int) s (rd os (i : Int)) = some ((rd_L1 cs (i : Int)).map (rowAt off s (rd os (i : Int))), 0) := by
 obtain ⟨g1, g2, g3, g4, g5⟩ := made_len0 h hi
 have hs := h.hs
 have ho := h.ho
 have hv := h.valid.2.2.2 _ (row_mem (ls := cs) (a1 := (i : Int)) ⟨by omega, by omega⟩)
 unfold step_Rows.f
 rw [asked_of h.valid (i : Int) s ⟨by omega, by omega⟩ (by omega), Option.bind_some, if_pos rfl, between_f, Option.bind_some, w64 _ (by omega) (by omega)]
 have hb : isIn 0 (rd os (i : Int)) (s - 1) = true := by unfold isIn; rw [decide_eq_true g4, decide_eq_true (by omega)]; rfl
 rw [hb, if_pos rfl]
 have := srows off cs (rd_L1 cs (i : Int)) s (rd os (i : Int)) (by omega) (by omega) (by omega) hv.2.2 (by omega) (by omega) (rd_L1 cs (i : Int)).length 0 (by omega) 20 (by omega) [] (by simp)
 rw [List.drop_zero, if_pos (made_all h hi), List.nil_append] at this
 exact this
theorem made_near {i : Nat} (hi : i < cs.length) {k : Nat} (hk : k < (rd_L1 rs (i : Int)).length) : ((rd_L1 cs (i : Int)).map (rowAt off s (rd os (i : Int)))).length = (rd_L1 rs (i : Int)).length ∧ (rd_T46 ((rd_L1 cs (i : Int)).map (rowAt off s (rd os (i : Int)))) (k : Int)).f0 ≤ rd (rd_L1 rs (i : Int)) (k : Int) ∧ rd (rd_L1 rs (i : Int)) (k : Int) ≤ (rd_T46 ((rd_L1 cs (i : Int)).map (rowAt off s (rd os (i : Int)))) (k : Int)).f1 := by
 obtain ⟨e1, e2, e3⟩ := made_row cs rs os i
 obtain ⟨g1, g2, g3, g4⟩ := h.inn i hi
 rw [e2] at hk
 rw [e1, e2, e3]
 have hk2 : k < (cs.getD i []).length := by omega
 have e4 : rd_T46 ((cs.getD i []).map (rowAt off s (os.getD i 0))) (k : Int) = rowAt off s (os.getD i 0) ((cs.getD i []).getD k 0) := by
  generalize os.getD i 0 = o
  generalize cs.getD i [] = l at hk2
  unfold rd_T46
  rw [Int.toNat_natCast, List.getD_eq_getElem?_getD, List.getElem?_map, List.getD_eq_getElem?_getD, List.getElem?_eq_getElem hk2]
  rfl
 have e5 : rd (rs.getD i []) (k : Int) = (rs.getD i []).getD k 0 := by unfold rd; rw [Int.toNat_natCast]
 rw [e4, e5]
 have := tr_row (by have := h.hs; omega) (g4 k hk2)
 exact ⟨by rw [List.length_map]; omega, this.1, this.2⟩
theorem made_clash {i : Nat} (hi : i < cs.length) : step_Clash.f off cs (i : Int) s = some ([], 8) := by
 obtain ⟨g1, g2, g3, g4, g5⟩ := made_len0 h hi
 have hs := h.hs
 have ho := h.ho
 have hv := h.valid.2.2.2 _ (row_mem (ls := cs) (a1 := (i : Int)) ⟨by omega, by omega⟩)
 unfold step_Clash.f
 rw [asked_of h.valid (i : Int) s ⟨by omega, by omega⟩ (by omega), Option.bind_some, if_pos rfl, if_pos ⟨by omega, by omega, hv.2.2, by show 0 < (rd_L1 cs (i : Int)).length; omega, by show (rd_L1 cs (i : Int)).length ≤ 1000; omega⟩, if_pos (made_allow h hi)]
theorem made_verify {i : Nat} (hi : i < cs.length) (m : Nat) (hne : maskNums (rd_L1 cs (i : Int)).length m ≠ []) : step_Verify.f 3000 off cs (i : Int) s (maskNums (rd_L1 cs (i : Int)).length m) = some 14 := by
 obtain ⟨g1, g2, g3, g4, g5⟩ := made_len0 h hi
 have hs := h.hs
 have ho := h.ho
 have hv := h.valid.2.2.2 _ (row_mem (ls := cs) (a1 := (i : Int)) ⟨by omega, by omega⟩)
 have hml := mask_len (rd_L1 cs (i : Int)).length m
 obtain ⟨e, h1, _, h3⟩ := verify_same off cs (i : Int) s (maskNums (rd_L1 cs (i : Int)).length m) (by omega) 3000 (by omega)
 have h4 := h3 (rd_L1 cs (i : Int)) ⟨by omega, by omega, ⟨by omega, by omega⟩, by have := h.hc; omega, rfl, by omega, by omega, hv.2.2⟩ (asked_of h.valid (i : Int) s ⟨by omega, by omega⟩ (by omega))
 rw [h1, h4]
 unfold verOf
 rw [if_neg (fun e0 => hne (List.length_eq_zero_iff.1 e0)), ver_sorted off s _ _ (by omega) _ (-1) ((nums_sorted _).sublist (mask_sub _ m)) (mask_in _ m) (fun x hx => by have := mask_in _ m x hx; omega)]
 rw [if_pos]
 have hcm := chosen_in (rd_L1 cs (i : Int)) (maskNums (rd_L1 cs (i : Int)).length m) (mask_in _ m) (fun p => (rd os (i : Int) + off - p) % s ≤ 2 * off) (made_fits h hi)
 refine (allows_iff off s _ (by omega) ho.1 (fun e0 => hne ?_)).2 ⟨rd os (i : Int), ⟨g4, g5⟩, hcm⟩
 have := chosen_length (rd_L1 cs (i : Int)) (maskNums (rd_L1 cs (i : Int)).length m)
 rw [e0] at this
 exact List.length_eq_zero_iff.1 this.symm
end
end Go.Proofs.Ytnbcdbkhpdpjgaa.H
