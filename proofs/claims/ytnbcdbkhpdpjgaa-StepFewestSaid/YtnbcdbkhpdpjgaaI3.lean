/- Plain laws of StepExact: what near tries, offsets, rows and steps are the same. -/
import Derived.Test.YtnbcdbkhpdpjgaaHW
import Derived.Test.YtnbcdbkhpdpjgaaHF
import Derived.Test.YtnbcdbkhpdpjgaaQC0
import Derived.Test.YtnbcdbkhpdpjgaaQA7
import Derived.Test.YtnbcdbkhpdpjgaaHO
import Derived.Test.YtnbcdbkhpdpjgaaQA9
import Derived.Test.YtnbcdbkhpdpjgaaQC2
namespace Go.Proofs.Ytnbcdbkhpdpjgaa.H
open Go.RowKit Go.Proofs.YtnbcdbkhpdpjgaaW.PrintWords Go.Proofs.YtnbcdbkhpdpjgaaW.PrintLast Go.Proofs.YtnbcdbkhpdpjgaaW.PrintMore
open Go.Proofs.Ytnbcdbkhpdpjgaa.QA
set_option linter.unusedVariables false
set_option linter.unusedSimpArgs false

/-- A row is near just if it is one of the rows that are returned. -/
theorem in_row (off s o p k : Int) (hs : 0 < s) : (p - o - k * s ≤ off ∧ -(p - o - k * s) ≤ off) ↔ (lowRow off p s o ≤ k ∧ k ≤ highRow off p s o) := by
 unfold lowRow highRow
 have h1 := Int.le_ediv_iff_mul_le (a := k) (b := p - o + off) hs
 have h2 := Int.le_ediv_iff_mul_le (a := -k) (b := o + off - p) hs
 rw [Int.neg_mul] at h2
 constructor
 · rintro ⟨g1, g2⟩
   have := h1.2 (by omega)
   have := h2.2 (by omega)
   omega
 · rintro ⟨g1, g2⟩
   have := h1.1 (by omega)
   have := h2.1 (by omega)
   omega
/-- A quotient that is cut off. -/
theorem tdiv_near (a s : Int) (hs : 0 < s) : s * Int.tdiv a s < a + s ∧ a - s < s * Int.tdiv a s := by
 have h1 := Int.tmod_add_mul_tdiv a s
 have h2 : Int.tmod a s < s := Int.tmod_lt_of_pos a hs
 have h3 : -s < Int.tmod a s := Int.lt_tmod_of_pos a hs
 omega
theorem tdiv_small (a s N : Int) (hs : 0 < s) (h0 : -N ≤ a) (h1 : a ≤ N) (hN : 0 ≤ N) : -N ≤ Int.tdiv a s ∧ Int.tdiv a s ≤ N := by
 have hm := Int.natAbs_tdiv_le_natAbs a s
 omega
theorem near_l0 (p s t off H : Int) (hs : 1 ≤ s ∧ s ≤ 1000) (hp : 0 ≤ p ∧ p ≤ 1000000) (ht : 0 ≤ t ∧ t ≤ 1000) (ho : 0 ≤ off ∧ off ≤ 1000) (hH : H = Int.tdiv (p - t + off) s + 2) (hh : highRow off p s t ≤ H) :
  ∀ (n : Nat) (x : Int), (H + 1 - x).toNat = n → -2000000 ≤ x → x ≤ 2000000 → (lowRow off p s t ≤ highRow off p s t → x ≤ lowRow off p s t) → ∀ k, n + 1 ≤ k → pianolalaw01_near.l0 k p s t off x = some (fitB off s t p) := by
 have hb := tdiv_small (p - t + off) s 1500000 (by omega) (by omega) (by omega) (by omega)
 intro n
 induction n with
 | zero =>
  intro x hn h1 h2 hx k hk
  obtain ⟨k, rfl⟩ : ∃ m, k = m + 1 := ⟨k - 1, by omega⟩
  rw [pianolalaw01_near.l0, if_neg (by omega), w64 (p - t) (by omega) (by omega), w64 (p - t + off) (by omega) (by omega), w64 (Int.tdiv (p - t + off) s) (by omega) (by omega), w64 (Int.tdiv (p - t + off) s + 2) (by omega) (by omega), ← hH, if_neg (by omega)]
  unfold fitB
  rw [decide_eq_false (by omega)]
 | succ n ih =>
  intro x hn h1 h2 hx k hk
  obtain ⟨k, rfl⟩ : ∃ m, k = m + 1 := ⟨k - 1, by omega⟩
  have m1 : x * s ≤ 2000000 * 1000 := Int.le_trans (Int.mul_le_mul_of_nonneg_right h2 (by omega)) (Int.mul_le_mul_of_nonneg_left hs.2 (by omega))
  have m2 : -2000000 * 1000 ≤ x * s := Int.le_trans (by have := Int.mul_le_mul_of_nonneg_left hs.2 (show (0:Int) ≤ 2000000 by omega); omega) (Int.mul_le_mul_of_nonneg_right h1 (by omega))
  have hr := in_row off s t p x (by omega)
  rw [pianolalaw01_near.l0, if_neg (by omega), w64 (p - t) (by omega) (by omega), w64 (p - t + off) (by omega) (by omega), w64 (Int.tdiv (p - t + off) s) (by omega) (by omega), w64 (Int.tdiv (p - t + off) s + 2) (by omega) (by omega), ← hH, if_pos (by omega), w64 (x * s) (by omega) (by omega), w64 (p - t - x * s) (by omega) (by omega), w64 (-(p - t - x * s)) (by omega) (by omega), w64 (x + 1) (by omega) (by omega)]
  by_cases g : lowRow off p s t ≤ x ∧ x ≤ highRow off p s t
  · obtain ⟨g1, g2⟩ := hr.2 g
    rw [if_pos g1, if_pos g2]
    unfold fitB
    rw [decide_eq_true (by omega)]
  · have hg : ¬ (p - t - x * s ≤ off ∧ -(p - t - x * s) ≤ off) := fun e => g (hr.1 e)
    have e := ih (x + 1) (by omega) (by omega) (by omega) (by omega) k (by omega)
    rw [e]
    split
    · rw [if_neg (by omega)]
    · rfl
theorem near_f (p s t off : Int) (hs : 1 ≤ s ∧ s ≤ 1000) (hp : 0 ≤ p ∧ p ≤ 1000000) (ht : 0 ≤ t ∧ t ≤ 1000) (ho : 0 ≤ off ∧ off ≤ 6) : pianolalaw01_near.f 40 p s t off = some (fitB off s t p) := by
 unfold pianolalaw01_near.f
 have b1 := tdiv_small (p - t - off) s 1100000 (by omega) (by omega) (by omega) (by omega)
 have b2 := tdiv_small (p - t + off) s 1100000 (by omega) (by omega) (by omega) (by omega)
 have c1 := tdiv_near (p - t - off) s (by omega)
 have c2 := tdiv_near (p - t + off) s (by omega)
 have i1 := (in_row off s t p (lowRow off p s t) (by omega)).2
 have i2 := (in_row off s t p (highRow off p s t) (by omega)).2
 rw [if_neg (by omega), w64 (p - t) (by omega) (by omega), w64 (p - t - off) (by omega) (by omega), w64 (Int.tdiv (p - t - off) s) (by omega) (by omega), w64 (Int.tdiv (p - t - off) s - 2) (by omega) (by omega)]
 have hhi : highRow off p s t ≤ Int.tdiv (p - t + off) s + 1 := by
  unfold highRow
  have h1 := Int.ediv_mul_le (p - t + off) (show s ≠ 0 by omega)
  have h2 : s * ((p - t + off) / s) < s * (Int.tdiv (p - t + off) s + 1) := by rw [Int.mul_add, Int.mul_comm]; omega
  have := Int.lt_of_mul_lt_mul_left h2 (by omega)
  omega
 have hlo : Int.tdiv (p - t - off) s - 1 ≤ lowRow off p s t := by
  unfold lowRow
  have h1 := Int.ediv_mul_le (t + off - p) (show s ≠ 0 by omega)
  have h2 : s * (Int.tdiv (p - t - off) s - 1) < s * (-((t + off - p) / s)) := by rw [Int.mul_sub, Int.mul_neg, Int.mul_comm s ((t + off - p) / s)]; omega
  have := Int.lt_of_mul_lt_mul_left h2 (by omega)
  omega
 have hgap : Int.tdiv (p - t + off) s ≤ Int.tdiv (p - t - off) s + 14 := by
  have h3 : s * (Int.tdiv (p - t + off) s) < s * (Int.tdiv (p - t - off) s + 15) := by
   rw [Int.mul_add]
   have : 2 * off + 2 * s ≤ s * 15 := by omega
   omega
  have := Int.lt_of_mul_lt_mul_left h3 (by omega)
  omega
 exact near_l0 p s t off (Int.tdiv (p - t + off) s + 2) hs hp ht ⟨ho.1, by omega⟩ rfl (by omega) _ (Int.tdiv (p - t - off) s - 2) rfl (by omega) (by omega) (fun _ => by omega) 40 (by omega)
/-- A copy allows a step just if there is an offset. -/
theorem allows_pos (off s : Int) (l : List Int) (hs : 0 < s) (ho : 0 ≤ off) (hl : l ≠ []) : allowsB off s l = decide (0 < (offsOf off s l).length) := by
 rw [Bool.eq_iff_iff, decide_eq_true_iff, allows_iff off s l hs ho hl]
 constructor
 · rintro ⟨o, h1, h2⟩
   exact List.length_pos_of_mem ((offs_mem' off s o l hs ho).2 ⟨h1, List.all_eq_true.2 fun p hp => by rw [fit_mod off s o p hs]; exact decide_eq_true (h2 p hp)⟩)
 · intro h
   obtain ⟨o, ho'⟩ := List.exists_mem_of_length_pos h
   obtain ⟨h1, h2⟩ := (offs_mem' off s o l hs ho).1 ho'
   exact ⟨o, h1, fun p hp => by have := List.all_eq_true.1 h2 p hp; rw [fit_mod off s o p hs] at this; exact of_decide_eq_true this⟩
/-- Rows of a sheet that has been moved a little. -/
def PosM (cs0 cs : List (List Int)) (m : Nat) : Prop := cs.length = cs0.length ∧ (∀ c, (cs.getD c []).length = (cs0.getD c []).length) ∧ ∀ c k, k < (cs.getD c []).length → 1 ≤ (cs.getD c []).getD k 0 ∧ (cs.getD c []).getD k 0 ≤ 3000 + 255 * m
theorem PosM.put {cs0 cs : List (List Int)} {m : Nat} (h : PosM cs0 cs m) (c k : Nat) (hc : c < cs.length) (x : Int) (h1 : (cs.getD c []).getD k 0 ≤ x) (h2 : x ≤ (cs.getD c []).getD k 0 + 255) : PosM cs0 (cs.set c ((cs.getD c []).set k x)) (m + 1) := by
 obtain ⟨g1, g2, g3⟩ := h
 refine ⟨by rw [List.length_set]; exact g1, fun d => ?_, fun d j hj => ?_⟩
 · by_cases e : c = d
   · subst e; rw [getD_set_eq _ _ _ _ hc, List.length_set]; exact g2 c
   · rw [getD_set_ne _ _ _ _ _ e]; exact g2 d
 · by_cases e : c = d
   · subst e
     rw [getD_set_eq _ _ _ _ hc] at hj ⊢
     rw [List.length_set] at hj
     have := g3 c j hj
     by_cases e2 : k = j
     · subst e2; rw [getD_set_eq _ _ _ _ hj]; omega
     · rw [getD_set_ne _ _ _ _ _ e2]; omega
   · rw [getD_set_ne _ _ _ _ _ e] at hj ⊢
     have := g3 d j hj
     omega
theorem PosM.mono {cs0 cs : List (List Int)} {m n : Nat} (h : PosM cs0 cs m) (hmn : m ≤ n) : PosM cs0 cs n := ⟨h.1, h.2.1, fun c k hk => by have := h.2.2 c k hk; omega⟩
theorem Made.posM {off s : Int} {cs rs : List (List Int)} {os : List Int} (h : Made off cs s os rs) : PosM cs cs 0 := by
 refine ⟨rfl, fun _ => rfl, fun c k hk => ?_⟩
 by_cases hc : c < cs.length
 · have := (h.inn c hc).2.2.2 k hk
   unfold Tr at this
   omega
 · rw [List.getD_eq_getElem?_getD, List.getElem?_eq_none (by omega)] at hk
   simp at hk
theorem PosM.valid {off : Int} {cs0 cs : List (List Int)} {m : Nat} (h : PosM cs0 cs m) (h0 : Valid off cs0) (hm : m ≤ 1000) : Valid off cs := by
 obtain ⟨g1, g2, g3⟩ := h
 refine ⟨h0.1, by rw [g1]; exact h0.2.1, by rw [g1]; exact h0.2.2.1, fun l hl => ?_⟩
 obtain ⟨c, hc, rfl⟩ := List.getElem_of_mem hl
 have e : cs.getD c [] = cs[c] := by rw [List.getD_eq_getElem?_getD, List.getElem?_eq_getElem hc]; rfl
 have e0 : cs0.getD c [] = cs0[c]'(by omega) := by rw [List.getD_eq_getElem?_getD, List.getElem?_eq_getElem (by omega)]; rfl
 have hv := h0.2.2.2 _ (List.getElem_mem (show c < cs0.length by omega))
 have hl2 := g2 c
 rw [e, e0] at hl2
 refine ⟨by omega, by omega, fun p hp => ?_⟩
 obtain ⟨k, hk, rfl⟩ := List.getElem_of_mem hp
 have := g3 c k (by rw [e]; exact hk)
 rw [e, show cs[c].getD k 0 = cs[c][k] by rw [List.getD_eq_getElem?_getD, List.getElem?_eq_getElem hk]; rfl] at this
 omega
theorem all_take (f : Int → Bool) (l : List Int) (k : Nat) (hk : k < l.length) : (l.take (k + 1)).all f = ((l.take k).all f && f (rd l (k : Int))) := by
 rw [List.take_add_one, List.all_append, List.getElem?_eq_getElem hk]
 have : rd l (k : Int) = l[k] := by unfold rd; rw [Int.toNat_natCast, List.getD_eq_getElem?_getD, List.getElem?_eq_getElem hk]; rfl
 rw [this]
 simp
end Go.Proofs.Ytnbcdbkhpdpjgaa.H
