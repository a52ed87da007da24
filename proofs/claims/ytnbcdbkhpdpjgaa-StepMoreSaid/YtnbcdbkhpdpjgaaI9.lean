/- Plain laws of StepMore: with one more copy, one more position or a smaller error no step becomes possible; and a region whose operations may come up in any order, by what holds at each state. -/
import Derived.Test.YtnbcdbkhpdpjgaaHW
import Derived.Test.YtnbcdbkhpdpjgaaHV
namespace Go.Proofs.Ytnbcdbkhpdpjgaa.H
open Go.RowKit Go.Proofs.YtnbcdbkhpdpjgaaW.PrintWords Go.Proofs.YtnbcdbkhpdpjgaaW.PrintLast Go.Proofs.YtnbcdbkhpdpjgaaW.PrintMore
open Go.Proofs.Ytnbcdbkhpdpjgaa.QA
set_option linter.unusedVariables false
set_option linter.unusedSimpArgs false

theorem emod_le_self {a b : Int} (ha : 0 ≤ a) (hb : 0 < b) : a % b ≤ a := by
 by_cases h : a < b
 · rw [Int.emod_eq_of_lt ha h]; omega
 · have := Int.emod_lt_of_pos a hb; omega
theorem allows_less {off s : Int} {l l' : List Int} (hs : 0 < s) (ho : 0 ≤ off) (hl : l ≠ []) (hsub : ∀ p ∈ l, p ∈ l') (h : allowsB off s l' = true) : allowsB off s l = true := by
 have hl' : l' ≠ [] := by
  obtain ⟨x, hx⟩ := List.exists_mem_of_ne_nil l hl
  exact fun e => by have := hsub x hx; rw [e] at this; simp at this
 obtain ⟨o, h1, h2⟩ := (allows_iff off s l' hs ho hl').1 h
 exact (allows_iff off s l hs ho hl).2 ⟨o, h1, fun p hp => h2 p (hsub p hp)⟩
theorem allows_smaller {off off' s : Int} {l : List Int} (hs : 0 < s) (h0 : 0 ≤ off') (h1 : off' ≤ off) (hl : l ≠ []) (h : allowsB off' s l = true) : allowsB off s l = true := by
 obtain ⟨o, g1, g2⟩ := (allows_iff off' s l hs h0 hl).1 h
 refine (allows_iff off s l hs (by omega) hl).2 ⟨o, g1, fun p hp => ?_⟩
 have := g2 p hp
 have e : o + off - p = (o + off' - p) + (off - off') := by omega
 rw [e, ← Int.emod_add_emod]
 have h3 := Int.emod_nonneg (o + off' - p) (show s ≠ 0 by omega)
 have h4 : ((o + off' - p) % s + (off - off')) % s ≤ (o + off' - p) % s + (off - off') := emod_le_self (by omega) (by omega)
 omega
/-- What the steps of a second sheet are against those of the first one. -/
def Fewer (off off' : Int) (cs cs' : List (List Int)) : Prop := ∀ s, 0 < s → (∀ l ∈ cs', allowsB off' s l = true) → ∀ l ∈ cs, allowsB off s l = true
theorem fewer_steps {off off' : Int} {cs cs' : List (List Int)} (h : Fewer off off' cs cs') (s : Int) (hs : s ∈ stepsFrom off' cs' 50 1) : s ∈ stepsFrom off cs 50 1 := by
 obtain ⟨h1, h2⟩ := (mem_steps off' cs' 50 1 s).1 hs
 exact (mem_steps off cs 50 1 s).2 ⟨h1, h s (by omega) h2⟩
theorem fewer_copy (off : Int) (cs : List (List Int)) (r : List Int) : Fewer off off cs (cs ++ [r]) := fun s _ h l hl => h l (List.mem_append_left _ hl)
theorem fewer_position {off : Int} {cs : List (List Int)} (h : Valid off cs) (p : Int) : Fewer off off cs (cs.set 0 (cs.getD 0 [] ++ [p])) := fun s hs hall l hl => by
 obtain ⟨i, hi, rfl⟩ := List.getElem_of_mem hl
 have hne : cs[i] ≠ [] := fun e => by have := (h.2.2.2 _ hl).1; rw [e] at this; simp at this
 by_cases e : i = 0
 · subst e
   have hx : (cs.set 0 (cs.getD 0 [] ++ [p]))[0]'(by simpa using hi) = cs.getD 0 [] ++ [p] := by simp
   have := hall _ (hx ▸ List.getElem_mem (by simpa using hi))
   refine allows_less hs h.1.1 hne (fun q hq => ?_) this
   rw [List.getD_eq_getElem?_getD, List.getElem?_eq_getElem hi]
   exact List.mem_append_left _ hq
 · have hx : (cs.set 0 (cs.getD 0 [] ++ [p]))[i]'(by simpa using hi) = cs[i] := List.getElem_set_ne (by omega) _
   exact hx ▸ hall _ (List.getElem_mem (by simpa using hi))
theorem fewer_error {off off' : Int} {cs : List (List Int)} (h : Valid off cs) (h0 : 0 ≤ off') (h1 : off' ≤ off) : Fewer off off' cs cs := fun s hs hall l hl =>
 allows_smaller hs h0 h1 (fun e => by have := (h.2.2.2 _ hl).1; rw [e] at this; simp at this) (hall l hl)
theorem valid_copy {off : Int} {cs : List (List Int)} (h : Valid off cs) (h3 : cs.length ≤ 3) (p : Int) (hp : 0 ≤ p ∧ p ≤ 65535) : Valid off (cs ++ [[p, 17]]) := by
 refine ⟨h.1, by simp, by simp; omega, fun l hl => ?_⟩
 rcases List.mem_append.1 hl with hl | hl
 · exact h.2.2.2 l hl
 · rw [List.mem_singleton.1 hl]
   refine ⟨by simp, by simp, fun q hq => ?_⟩
   rcases List.mem_cons.1 hq with rfl | hq
   · omega
   · rw [List.mem_singleton.1 hq]; omega
theorem valid_position {off : Int} {cs : List (List Int)} (h : Valid off cs) (h5 : ∀ l ∈ cs, l.length ≤ 5) (p : Int) (hp : 0 ≤ p ∧ p ≤ 65535) : Valid off (cs.set 0 (cs.getD 0 [] ++ [p])) := by
 have h0 : 0 < cs.length := h.2.1
 have e : cs.getD 0 [] = cs[0] := by rw [List.getD_eq_getElem?_getD, List.getElem?_eq_getElem h0]; rfl
 have hm : cs.getD 0 [] ∈ cs := by rw [e]; exact List.getElem_mem _
 refine ⟨h.1, by simpa using h0, by simpa using h.2.2.1, fun l hl => ?_⟩
 rcases List.mem_or_eq_of_mem_set hl with hl | rfl
 · exact h.2.2.2 l hl
 · have hv := h.2.2.2 _ hm
   have h6 := h5 _ hm
   refine ⟨by simp, by simp only [List.length_append, List.length_cons, List.length_nil]; omega, fun q hq => ?_⟩
   rcases List.mem_append.1 hq with hq | hq
   · exact hv.2.2 q hq
   · rw [List.mem_singleton.1 hq]; omega
theorem valid_error {off off' : Int} {cs : List (List Int)} (h : Valid off cs) (h0 : 0 ≤ off') (h1 : off' ≤ off) : Valid off' cs := ⟨⟨h0, by have := h.1.2; omega⟩, h.2⟩

/-- What the loop over the three sheets needs of one of them. -/
theorem Fewer1 (off : Int) (L : List Int) (off' : Int) (cs cs' : List (List Int)) (h : Valid off cs ∧ L = stepsFrom off cs 50 1 ∧ Fewer off off' cs cs' ∧ Valid off' cs') : ∃ K, step_Steps.f off' cs' 1 50 = some (K, 0) ∧ (∀ s ∈ K, s ∈ L) ∧ K.length ≤ 50 := by
 obtain ⟨h1, rfl, h3, h4⟩ := h
 exact ⟨_, steps_of h4 1 50 (by omega) (by omega) (by omega), fun s hs => fewer_steps h3 s hs, steps_len _ _ 50 1⟩
theorem made_rows5 {off s : Int} {cs rs : List (List Int)} {os : List Int} (h : Made off cs s os rs) : ∀ l ∈ cs, l.length ≤ 5 := fun l hl => by
 obtain ⟨c, hc, rfl⟩ := List.getElem_of_mem hl
 have h7 := (h.inn c hc).2.1
 rw [List.getD_eq_getElem?_getD, List.getElem?_eq_getElem hc] at h7
 simp only [Option.getD_some] at h7
 omega
/-! A region, by what holds at each state. -/
section
variable {P : Program} {ops : Array Oper} {Q : Exit → Act → World → Prop} {md : Region.Mode} {S : World → Prop} {ds : List Nat}
theorem lessB {l : Array Bool} {i : Nat} (h : l.getD i true = false) : i < l.size ∧ l[i]? = some false := by
 rcases Nat.lt_or_ge i l.size with hl | hl
 · refine ⟨hl, ?_⟩
   rw [Array.getD_eq_getD_getElem?, Array.getElem?_eq_getElem hl] at h
   rw [Array.getElem?_eq_getElem hl]
   exact congrArg some h
 · rw [Array.getD_eq_getD_getElem?, Array.getElem?_eq_none hl] at h
   cases h
theorem count_setL : ∀ (l : List Bool) (i : Nat), l[i]? = some false → (l.set i true).count false + 1 = l.count false
 | [], i, h => by simp at h
 | x :: r, 0, h => by
  obtain rfl : x = false := by simpa using h
  simp
 | x :: r, i + 1, h => by
  have := count_setL r i (by simpa using h)
  rw [List.set_cons_succ, List.count_cons, List.count_cons]
  omega
theorem count_set {l : Array Bool} {i : Nat} (h : l.getD i true = false) : (l.setIfInBounds i true).toList.count false + 1 = l.toList.count false := by
 obtain ⟨hl, he⟩ := lessB h
 rw [Array.toList_setIfInBounds]
 exact count_setL _ _ (by rw [Array.getElem?_toList]; exact he)
/-- From a state where I holds, whatever comes up: I holds behind it; where nothing is left, Q holds. -/
theorem region_inv (I : Array Bool → Act → World → Prop)
  (hstep : ∀ (l : Array Bool) (a : Act) (w : World) (i : Nat), I l a w → i ∈ Region.ready md ops l → wpOp P ops Q i (fun a' w' => I (l.setIfInBounds i true) a' w') a w)
  (hS : ∀ l a w, I l a w → S w) (hend : ∀ l a w, I l a w → Region.ready md ops l = [] → Q .normal a w) :
  ∀ (n : Nat) (l : Array Bool) (a : Act) (w : World), I l a w → l.toList.count false ≤ n → wpAnyLast P md ops Q S ds n l a w := by
 intro n
 induction n with
 | zero =>
  intro l a w hI hn
  have hr : Region.ready md ops l = [] := by
   rw [List.eq_nil_iff_forall_not_mem]
   intro i hi
   have h := count_set (mem_ready.1 hi).1
   omega
  exact ⟨hr, hend l a w hI hr⟩
 | succ n ih =>
  intro l a w hI hn
  refine ⟨fun hr => hend l a w hI hr, fun i hi => ?_⟩
  have h := count_set (mem_ready.1 hi).1
  exact wpOp_mono (fun a' w' hI' => ⟨fun _ _ => hS _ _ _ hI', ih _ a' w' hI' (by omega)⟩) (hstep l a w i hI hi)
end
end Go.Proofs.Ytnbcdbkhpdpjgaa.H
