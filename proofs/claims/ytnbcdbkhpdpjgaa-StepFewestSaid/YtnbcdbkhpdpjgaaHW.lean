/- Plain laws of a valid sheet: steps, offsets, numbers of a list; a cell of an own row of own rows is written. -/
import Derived.Test.YtnbcdbkhpdpjgaaHV
import Derived.Test.YtnbcdbkhpdpjgaaHQ
import Derived.Test.YtnbcdbkhpdpjgaaH7
namespace Go.Proofs.Ytnbcdbkhpdpjgaa.H
open Go.RowKit Go.Proofs.YtnbcdbkhpdpjgaaW.PrintWords Go.Proofs.YtnbcdbkhpdpjgaaW.PrintLast Go.Proofs.YtnbcdbkhpdpjgaaW.PrintMore
open Go.Proofs.Ytnbcdbkhpdpjgaa.QA
set_option linter.unusedVariables false
set_option linter.unusedSimpArgs false

def Valid (a : Int) (ls : List (List Int)) : Prop := (0 ≤ a ∧ a ≤ 50) ∧ 0 < ls.length ∧ ls.length ≤ 6 ∧ ∀ l ∈ ls, 0 < l.length ∧ l.length ≤ 12 ∧ ∀ p ∈ l, 0 ≤ p ∧ p ≤ 1000000
theorem chkRows_of : ∀ (ls : List (List Int)), (∀ l ∈ ls, 0 < l.length ∧ l.length ≤ 12 ∧ ∀ p ∈ l, 0 ≤ p ∧ p ≤ 1000000) → chkRows ls = 0
 | [], _ => rfl
 | l :: ls, h => by
  obtain ⟨h1, h2, h3⟩ := h l List.mem_cons_self
  unfold chkRows
  have h4 : (l.any fun p => !isIn 0 p 1000000) = false := List.any_eq_false.2 fun p hp => by
   unfold isIn
   rw [decide_eq_true (h3 p hp).1, decide_eq_true (h3 p hp).2]; simp
  rw [if_neg (by omega), if_neg (by omega), h4]
  exact chkRows_of ls fun x hx => h x (List.mem_cons_of_mem _ hx)
theorem check_of {a : Int} {ls : List (List Int)} (h : Valid a ls) : step_Check.f a ls = some 0 := by
 obtain ⟨h1, h2, h3, h4⟩ := h
 unfold step_Check.f
 have : isIn 0 a 50 = true := by unfold isIn; rw [decide_eq_true h1.1, decide_eq_true h1.2]; rfl
 rw [this, if_neg (by simp), if_neg (by omega), if_neg (by omega), chkRows_of ls h4]
theorem offs_mem' (off s o : Int) (l : List Int) (hs : 0 < s) (ho : 0 ≤ off) : o ∈ offsOf off s l ↔ (0 ≤ o ∧ o < s) ∧ l.all (fitB off s o) = true := by
 unfold offsOf offsTo
 rw [List.mem_filter, offsB_fits off s o l hs ho]
 refine and_congr ?_ Iff.rfl
 rw [List.mem_map]
 constructor
 · rintro ⟨i, hi, rfl⟩
   have := List.mem_range.1 hi
   omega
 · rintro ⟨h0, h1⟩
   exact ⟨o.toNat, List.mem_range.2 (by omega), by omega⟩
/-- A step is possible just if some offset fits all positions. -/
theorem allows_iff (off s : Int) (l : List Int) (hs : 0 < s) (ho : 0 ≤ off) (hl : l ≠ []) : allowsB off s l = true ↔ ∃ o, (0 ≤ o ∧ o < s) ∧ ∀ p ∈ l, (o + off - p) % s ≤ 2 * off := by
 rw [allows_offs off s l hs hl, decide_eq_true_iff]
 constructor
 · intro h
   obtain ⟨o, hm⟩ := List.exists_mem_of_length_pos h
   obtain ⟨h1, h2⟩ := (offs_mem' off s o l hs ho).1 hm
   exact ⟨o, h1, fun p hp => by have := List.all_eq_true.1 h2 p hp; rw [fit_mod off s o p hs] at this; exact of_decide_eq_true this⟩
 · rintro ⟨o, h1, h2⟩
   exact List.length_pos_of_mem ((offs_mem' off s o l hs ho).2 ⟨h1, List.all_eq_true.2 fun p hp => by rw [fit_mod off s o p hs]; exact decide_eq_true (h2 p hp)⟩)
theorem asked_of {a : Int} {ls : List (List Int)} (h : Valid a ls) (a1 a2 : Int) (h1 : 0 ≤ a1 ∧ a1 < ls.length) (h2 : 1 ≤ a2 ∧ a2 ≤ 1000) : step_Sheet_asked.f a ls a1 a2 = some (rd_L1 ls a1, 0) := by
 obtain ⟨g1, g2, g3, g4⟩ := h
 unfold step_Sheet_asked.f
 rw [check_of ⟨g1, g2, g3, g4⟩]
 simp only [Option.bind_some, between_f]
 rw [w64 _ (by omega) (by omega)]
 have hi : isIn 0 a1 ((ls.length : Int) - 1) = true := by unfold isIn; rw [decide_eq_true h1.1, decide_eq_true (by omega)]; rfl
 have hj : isIn 1 a2 1000 = true := by unfold isIn; rw [decide_eq_true h2.1, decide_eq_true h2.2]; rfl
 rw [hi]
 simp only [if_true]
 rw [hj, if_pos rfl, if_pos h1.1, if_pos h1.2]
theorem row_mem {ls : List (List Int)} {a1 : Int} (h1 : 0 ≤ a1 ∧ a1 < ls.length) : rd_L1 ls a1 ∈ ls := by
 unfold rd_L1; rw [List.getD_eq_getElem?_getD, List.getElem?_eq_getElem (by omega)]; exact List.getElem_mem _
theorem offsets_of {a : Int} {ls : List (List Int)} (h : Valid a ls) (a1 a2 : Int) (h1 : 0 ≤ a1 ∧ a1 < ls.length) (h2 : 1 ≤ a2 ∧ a2 ≤ 1000) : step_Offsets.f a ls a1 a2 = some (offsOf a a2 (rd_L1 ls a1), 0) := by
 have hv := h.2.2.2 _ (row_mem h1)
 unfold step_Offsets.f
 rw [asked_of h a1 a2 h1 h2, Option.bind_some, if_pos rfl, if_pos ⟨by omega, by have := h.1; omega, hv.2.2, by show (rd_L1 ls a1).length ≤ 100000; omega⟩]
theorem Made.valid {off s : Int} {cs rs : List (List Int)} {os : List Int} (h : Made off cs s os rs) : Valid off cs := by
 refine ⟨by have := h.ho; omega, by have := h.hc; omega, by have := h.hc; omega, fun l hl => ?_⟩
 obtain ⟨c, hc, rfl⟩ := List.getElem_of_mem hl
 obtain ⟨g1, g2, g3, g4⟩ := h.inn c hc
 have e : cs.getD c [] = cs[c] := by rw [List.getD_eq_getElem?_getD, List.getElem?_eq_getElem hc]; rfl
 rw [e] at g2 g4
 refine ⟨by omega, by omega, fun p hp => ?_⟩
 obtain ⟨k, hk, rfl⟩ := List.getElem_of_mem hp
 have g5 := g4 k hk
 rw [show cs[c].getD k 0 = cs[c][k] by rw [List.getD_eq_getElem?_getD, List.getElem?_eq_getElem hk]; rfl] at g5
 unfold Tr at g5
 omega
/-- An inner cell of an own row of own rows: where it lies, and what is true behind a store. -/
theorem put_at {B : Nat} {W : World} {P : Nat → Prop} {g n cap : Nat} {cs : List (List Int)} (h : Kd.S dL 34 W B P (.slice (some ⟨g, 0, none⟩) n cap) cs) (c k : Nat) (hc : c < cs.length) (hk : k < (cs.getD c []).length) :
  ∃ gu cu, W.cell? ⟨g, c, none⟩ = some (.slice (some ⟨gu, 0, none⟩) (cs.getD c []).length cu) ∧ W.cell? ⟨gu, k, none⟩ = some (.int .i64 ((cs.getD c []).getD k 0)) ∧ W.frozen? ⟨gu, k, none⟩ = false ∧ B ≤ gu ∧ (∃ cells, W.heap[gu]? = some (.cells cells 3 (0, 0))) ∧
   ∀ x, Kd.S dL 34 (W.setCell ⟨gu, k, none⟩ (.int .i64 x)) B P (.slice (some ⟨g, 0, none⟩) n cap) (cs.set c ((cs.getD c []).set k x)) := by
 have hn := (Kd.S_reads' h).1
 obtain ⟨oki, cl, hl, hM, hcc, hok, hput⟩ := Kd.S_borrow h [] (c : Int) (by omega) (by omega)
 rw [Int.toNat_natCast] at hM hcc hput
 obtain ⟨u, rfl, hR⟩ := hM
 obtain ⟨gu, cu, rfl, hb, _, hty⟩ := Kd.R_form hR (by omega)
 obtain ⟨r1, r2⟩ := Kd.R_cell (0 : Int) (h1 := fun _ => rfl) hR (k : Int) (by omega) (by omega)
 rw [Int.toNat_natCast] at r1 r2
 refine ⟨gu, cu, ?_, ?_, r2, hb, hty, fun x => ?_⟩
 · have := hcc 0 _ rfl
   simpa [show dL.sz = 1 from rfl, add_plain] using this
 · rw [r1]; rfl
 · obtain ⟨q1, q2⟩ := Kd.R_put (h1 := fun _ => rfl) hR (k : Int) x
   rw [Int.toNat_natCast] at q1 q2
   refine hput q2 (fun j hj => ?_) ⟨_, rfl, ?_⟩
   · injection hj with hj
     subst hj
     exact hR.1 gu (by simp [Value.ownBlock])
   · exact q1
end Go.Proofs.Ytnbcdbkhpdpjgaa.H
