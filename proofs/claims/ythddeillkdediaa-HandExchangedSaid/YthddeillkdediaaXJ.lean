/- Texts PW, PX, PZ, PB, MX of this chapter, one behind the other. -/
import Derived.Test.YthddeillkdediaaQA4
import Derived.Test.YthddeillkdediaaQA5
import Derived.Test.YthddeillkdediaaXI

/- Plain facts for the statements without the reference: samples, choices by bits, fractions. -/
namespace Go.Proofs.Ythddeillkdediaa.H
open Go.RowKit Go.Proofs.YthddeillkdediaaW.PrintWords Go.Proofs.YthddeillkdediaaW.PrintLast Go.Proofs.YthddeillkdediaaW.PrintMore
open Go.Shelf Go.Proofs.Ythddeillkdediaa.QA
set_option linter.unusedVariables false
set_option linter.unusedSimpArgs false


theorem tmod_nat (x y : Nat) : Int.tmod (x : Int) (y : Int) = ((x % y : Nat) : Int) := rfl
/-- What a sample of a statement is like. -/
def SmpOK (r : List Int) : Prop := 1 ≤ r.length ∧ r.length ≤ 5 ∧ ∀ x ∈ r, -3 ≤ x ∧ x ≤ 63
theorem sampled_l (l : List Int) (hl : ∀ x ∈ l, 0 ≤ x ∧ x ≤ 255) (wd : Nat) (hw : wd ≤ 255) : ∀ (m k i : Nat) (out : List Int), 5 - i = m → i = out.length → i ≤ 5 → (∀ x ∈ out, -3 ≤ x ∧ x ≤ 63) → m + 2 ≤ k → ∃ r, pianolalaw10_sampled.l0 k l (wd : Int) out (i : Int) = some r ∧ SmpOK r := by
 have hend : ∀ out : List Int, out.length ≤ 5 → (∀ x ∈ out, -3 ≤ x ∧ x ≤ 63) → ∃ r, (if (out.length : Int) = 0 then (if out.length < 17592186044416 then some (out ++ [1]) else none) else some out) = some r ∧ SmpOK r := fun out h1 h2 => by
  by_cases c : (out.length : Int) = 0
  · rw [if_pos c, if_pos (by omega)]
    have : out = [] := List.length_eq_zero_iff.1 (by omega)
    subst this
    exact ⟨_, rfl, by simp, by simp, by simp⟩
  · rw [if_neg c]
    exact ⟨_, rfl, by omega, h1, h2⟩
 intro m
 induction m with
 | zero =>
  intro k i out h1 h2 h3 h4 h5
  obtain ⟨k, rfl⟩ : ∃ k', k = k' + 1 := ⟨k - 1, by omega⟩
  unfold pianolalaw10_sampled.l0
  by_cases c : (i : Int) < (l.length : Int)
  · rw [if_pos c, if_neg (by omega)]
    exact hend out (by omega) h4
  · rw [if_neg c]
    exact hend out (by omega) h4
 | succ m ih =>
  intro k i out h1 h2 h3 h4 h5
  obtain ⟨k, rfl⟩ : ∃ k', k = k' + 1 := ⟨k - 1, by omega⟩
  unfold pianolalaw10_sampled.l0
  by_cases c : (i : Int) < (l.length : Int)
  · have hwm : wrap64 (2 + Int.tmod (wd : Int) 64) = ((2 + wd % 64 : Nat) : Int) := by
     rw [show (64 : Int) = ((64 : Nat) : Int) from rfl, tmod_nat, w64' _ (by omega) (by omega)]; push_cast; rfl
    have hx := hl _ (rd_mem l (show i < l.length by omega))
    obtain ⟨v, hv⟩ : ∃ v : Nat, rd l (i : Int) = (v : Int) := ⟨(rd l (i : Int)).toNat, by omega⟩
    rw [hv] at hx
    have hmod : v % (2 + wd % 64) < 2 + wd % 64 := Nat.mod_lt _ (by omega)
    rw [if_pos c, if_pos (by omega), if_pos (by omega), hwm, if_neg (by omega), if_pos (by omega), hv, w64' (v : Int) (by omega) (by omega), tmod_nat, w64' (((v % (2 + wd % 64) : Nat) : Int) - 3) (by omega) (by omega), wrap_up i (by omega)]
    exact ih k (i + 1) _ (by omega) (by simp [h2]) (by omega) (fun x hx => by
     rcases List.mem_append.1 hx with h | h
     · exact h4 x h
     · rw [List.mem_singleton.1 h]; omega) (by omega)
  · rw [if_neg c]
    exact hend out (by omega) h4
theorem sampled_f (l : List Int) (hl : ∀ x ∈ l, 0 ≤ x ∧ x ≤ 255) (wd : Int) (hw : 0 ≤ wd ∧ wd ≤ 255) (k : Nat) (hk : 10 ≤ k) : ∃ r, pianolalaw10_sampled.f k l wd = some r ∧ SmpOK r := by
 obtain ⟨n, rfl⟩ : ∃ n : Nat, wd = (n : Int) := ⟨wd.toNat, by omega⟩
 unfold pianolalaw10_sampled.f
 exact sampled_l l hl n (by omega) 5 k 0 [] rfl rfl (by omega) (by simp) (by omega)
theorem made_f (l m : List Int) (hl : ∀ x ∈ l, 0 ≤ x ∧ x ≤ 255) (hm : ∀ x ∈ m, 0 ≤ x ∧ x ≤ 255) (wd : Int) (hw : 0 ≤ wd ∧ wd ≤ 255) (k : Nat) (hk : 10 ≤ k) : ∃ a b, pianolalaw10_Touch_made.f k l m wd = some (a, b) ∧ SmpOK a ∧ SmpOK b := by
 unfold pianolalaw10_Touch_made.f
 rw [w64' wd (by omega) (by omega)]
 obtain ⟨a, ha, h1⟩ := sampled_f l hl wd hw k hk
 obtain ⟨b, hb, h2⟩ := sampled_f m hm wd hw k hk
 rw [ha, hb]
 exact ⟨a, b, rfl, h1, h2⟩
theorem SmpOK.chk {r : List Int} (h : SmpOK r) : chk r = 0 := by
 unfold H.chk
 rw [if_neg (by have := h.1; omega), if_neg (by have := h.2.1; omega), if_neg]
 rw [List.any_eq_true]
 rintro ⟨x, hx, hg⟩
 have := h.2.2 x hx
 unfold goodB isIn at hg
 simp at hg
 omega
theorem smp_both {a b : List Int} (ha : SmpOK a) (hb : SmpOK b) : bothI a b = 0 := by unfold bothI; rw [if_pos ha.chk, hb.chk]
end Go.Proofs.Ythddeillkdediaa.H

/- Plain law: chances of choices, and levels. -/
namespace Go.Proofs.Ythddeillkdediaa.H
open Go.RowKit Go.Proofs.YthddeillkdediaaW.PrintWords Go.Proofs.YthddeillkdediaaW.PrintLast Go.Proofs.YthddeillkdediaaW.PrintMore
open Go.Shelf Go.Proofs.Ythddeillkdediaa.QA
set_option linter.unusedVariables false
set_option linter.unusedSimpArgs false


theorem splits_cons (x : Int) (l : List Int) (P : List Int × List Int → Bool) : (splitsL (x :: l)).countP P = (splitsL l).countP (fun p => P (x :: p.1, p.2)) + (splitsL l).countP (fun p => P (p.1, x :: p.2)) := by
 have h : ∀ L : List (List Int × List Int), (L.flatMap fun p => [(x :: p.1, p.2), (p.1, x :: p.2)]).countP P = L.countP (fun p => P (x :: p.1, p.2)) + L.countP (fun p => P (p.1, x :: p.2)) := fun L => by
  induction L with
  | nil => rfl
  | cons p L ih =>
   rw [List.flatMap_cons, List.countP_append, ih]
   simp only [List.countP_cons, List.countP_nil]
   omega
 rw [splitsL, h]
theorem sumI_perm {l l' : List Int} (h : l.Perm l') : sumI l = sumI l' := by
 induction h with
 | nil => rfl
 | cons x _ ih => simp only [sumI]; omega
 | swap x y l => simp only [sumI]; omega
 | trans _ _ h1 h2 => rw [h1, h2]
theorem beatsI_perm {a a' b b' : List Int} (h1 : a.Perm a') (h2 : b.Perm b') : beatsI a b = beatsI a' b' := by
 unfold beatsI
 rw [sumI_perm (h1.map _)]
 exact sumI_congr _ _ _ fun x _ => sumI_perm (h2.map _)
theorem splits_perm {l l' : List Int} (h : l.Perm l') : ∀ (P : List Int × List Int → Bool), (∀ p p' : List Int × List Int, p.1.Perm p'.1 → p.2.Perm p'.2 → P p = P p') → (splitsL l).countP P = (splitsL l').countP P := by
 induction h with
 | nil => intro P hP; rfl
 | cons x _ ih =>
  intro P hP
  rw [splits_cons, splits_cons, ih (fun p => P (x :: p.1, p.2)) (fun p p' h1 h2 => hP (x :: p.1, p.2) (x :: p'.1, p'.2) (h1.cons x) h2), ih (fun p => P (p.1, x :: p.2)) (fun p p' h1 h2 => hP (p.1, x :: p.2) (p'.1, x :: p'.2) h1 (h2.cons x))]
 | swap x y l =>
  intro P hP
  rw [splits_cons, splits_cons, splits_cons, splits_cons, splits_cons, splits_cons]
  have e1 : (splitsL l).countP (fun p => P (y :: x :: p.1, p.2)) = (splitsL l).countP (fun p => P (x :: y :: p.1, p.2)) := List.countP_congr fun p _ => by rw [hP (y :: x :: p.1, p.2) (x :: y :: p.1, p.2) (List.Perm.swap x y p.1) (List.Perm.refl _)]
  have e2 : (splitsL l).countP (fun p => P (p.1, y :: x :: p.2)) = (splitsL l).countP (fun p => P (p.1, x :: y :: p.2)) := List.countP_congr fun p _ => by rw [hP (p.1, y :: x :: p.2) (p.1, x :: y :: p.2) (List.Perm.refl _) (List.Perm.swap x y p.2)]
  simp only
  omega
 | trans _ _ h1 h2 =>
  intro P hP
  rw [h1 P hP, h2 P hP]
theorem cntB_perm {a b c d : List Int} (h : (c ++ d).Perm (a ++ b)) (hl : c.length = a.length) (q : Int → Bool) : cntB c d q = cntB a b q := by
 unfold cntB
 rw [hl]
 exact splits_perm h _ fun p p' h1 h2 => by rw [h1.length_eq, beatsI_perm h1 h2]
theorem SmpOK.take {a : List Int} (h : SmpOK a) (n : Nat) (hn : 1 ≤ n) : SmpOK (a.take n) := ⟨by rw [List.length_take]; have := h.1; omega, by rw [List.length_take]; have := h.2.1; omega, fun x hx => h.2.2 x (List.mem_of_mem_take hx)⟩

end Go.Proofs.Ythddeillkdediaa.H

/- Plain law: swaps. -/
namespace Go.Proofs.Ythddeillkdediaa.H
open Go.RowKit Go.Proofs.YthddeillkdediaaW.PrintWords Go.Proofs.YthddeillkdediaaW.PrintLast Go.Proofs.YthddeillkdediaaW.PrintMore
open Go.Shelf Go.Proofs.Ythddeillkdediaa.QA
set_option linter.unusedVariables false
set_option linter.unusedSimpArgs false


theorem farI_comm (x y : Int) : farI x y = farI y x := by
 unfold farI mx
 split <;> split <;> omega
theorem allS_count (r : Int) (rs : List Int) (q : Int → Bool) : (allS (r :: rs)).countP q = (allS rs).countP (fun t => q (t + r)) + (allS rs).countP (fun t => q (t - r)) := by
 have h : ∀ L : List Int, (L.flatMap fun s => [s + r, s - r]).countP q = L.countP (fun t => q (t + r)) + L.countP (fun t => q (t - r)) := fun L => by
  induction L with
  | nil => rfl
  | cons a L ih =>
   rw [List.flatMap_cons, List.countP_append, ih]
   simp only [List.countP_cons, List.countP_nil]
   omega
 rw [allS, h]
end Go.Proofs.Ythddeillkdediaa.H

/- Plain law: samples exchanged, moved, negated; pairs in another order. -/
namespace Go.Proofs.Ythddeillkdediaa.H
open Go.RowKit Go.Proofs.YthddeillkdediaaW.PrintWords Go.Proofs.YthddeillkdediaaW.PrintLast Go.Proofs.YthddeillkdediaaW.PrintMore
open Go.Shelf Go.Proofs.Ythddeillkdediaa.QA
set_option linter.unusedVariables false
set_option linter.unusedSimpArgs false


theorem splits_swap : ∀ (l : List Int) (P : List Int × List Int → Bool), (splitsL l).countP P = (splitsL l).countP (fun p => P (p.2, p.1))
 | [], P => rfl
 | x :: l, P => by
  rw [splits_cons, splits_cons, splits_swap l (fun p => P (x :: p.1, p.2)), splits_swap l (fun p => P (p.1, x :: p.2)), Nat.add_comm]
theorem beats_swap (c d : List Int) : beatsI d c = 2 * (c.length : Int) * d.length - beatsI c d := by
 unfold beatsI
 rw [sumI_swap d c (fun x y => scoreI x y)]
 have : sumI (c.map fun y => sumI (d.map fun x => scoreI x y)) + sumI (c.map fun x => sumI (d.map fun y => scoreI x y)) = 2 * (c.length : Int) * d.length := by
  rw [← sumI_add, sumI_congr c _ (fun _ => 2 * (d.length : Int)) (fun x _ => by
   rw [← sumI_add, sumI_congr d _ (fun _ => (2 : Int)) (fun y _ => by have := scoreI_two y x; omega), sumI_const]), sumI_const, Int.mul_assoc, Int.mul_comm (d.length : Int), ← Int.mul_assoc]
 omega
theorem cntB_exch (a b : List Int) (q : Int → Bool) : cntB b a q = cntB a b (fun x => q (2 * (a.length : Int) * b.length - x)) := by
 unfold cntB
 rw [splits_perm (List.perm_append_comm (l₁ := b) (l₂ := a)) _ (fun p p' h1 h2 => by rw [h1.length_eq, beatsI_perm h1 h2]), splits_swap]
 refine List.countP_congr fun p hp => ?_
 have hl := splits_len _ _ hp
 rw [List.length_append] at hl
 simp only [Bool.and_eq_true, decide_eq_true_eq]
 constructor
 · rintro ⟨h1, h2⟩
   refine ⟨by omega, ?_⟩
   rw [beats_swap] at h2
   rw [show a.length = p.1.length by omega, ← h1]
   exact h2
 · rintro ⟨h1, h2⟩
   refine ⟨by omega, ?_⟩
   rw [beats_swap]
   rw [← h1, show b.length = p.2.length by omega] at h2
   exact h2
theorem splits_map (f : Int → Int) : ∀ l : List Int, splitsL (l.map f) = (splitsL l).map (fun p => (p.1.map f, p.2.map f))
 | [] => rfl
 | x :: l => by
  rw [List.map_cons, splitsL, splitsL, splits_map f l, List.flatMap_map, List.map_flatMap]
  rfl
theorem beats_map (f : Int → Int) (hf : ∀ x y, scoreI (f x) (f y) = scoreI x y) (c d : List Int) : beatsI (c.map f) (d.map f) = beatsI c d := by
 unfold beatsI
 rw [List.map_map]
 refine sumI_congr c _ _ fun x _ => ?_
 show sumI ((d.map f).map fun y => scoreI (f x) y) = _
 rw [List.map_map]
 exact sumI_congr d _ _ fun y _ => hf x y
theorem cntB_map (f : Int → Int) (hf : ∀ x y, scoreI (f x) (f y) = scoreI x y) (a b : List Int) (q : Int → Bool) : cntB (a.map f) (b.map f) q = cntB a b q := by
 unfold cntB
 rw [← List.map_append, splits_map, List.countP_map]
 refine List.countP_congr fun p _ => ?_
 simp only [Function.comp, List.length_map, beats_map f hf]
theorem beats_neg (f : Int → Int) (hf : ∀ x y, scoreI (f x) (f y) = scoreI y x) (c d : List Int) : beatsI (c.map f) (d.map f) = 2 * (c.length : Int) * d.length - beatsI c d := by
 rw [← beats_swap]
 unfold beatsI
 rw [List.map_map, sumI_swap d c (fun x y => scoreI x y)]
 refine sumI_congr c _ _ fun x _ => ?_
 show sumI ((d.map f).map fun y => scoreI (f x) y) = _
 rw [List.map_map]
 exact sumI_congr d _ _ fun y _ => hf x y
theorem cntB_neg (f : Int → Int) (hf : ∀ x y, scoreI (f x) (f y) = scoreI y x) (a b : List Int) (q : Int → Bool) : cntB (a.map f) (b.map f) q = cntB a b (fun x => q (2 * (a.length : Int) * b.length - x)) := by
 unfold cntB
 rw [← List.map_append, splits_map, List.countP_map]
 refine List.countP_congr fun p hp => ?_
 have hl := splits_len _ _ hp
 rw [List.length_append] at hl
 simp only [Function.comp, List.length_map, beats_neg f hf, Bool.and_eq_true, decide_eq_true_eq]
 constructor
 · rintro ⟨h1, h2⟩
   refine ⟨h1, ?_⟩
   rw [← h1, show b.length = p.2.length by omega]
   exact h2
 · rintro ⟨h1, h2⟩
   refine ⟨h1, ?_⟩
   rw [← h1, show b.length = p.2.length by omega] at h2
   exact h2
theorem cntB_perm2 {a b c d : List Int} (h1 : c.Perm a) (h2 : d.Perm b) (q : Int → Bool) : cntB c d q = cntB a b q := cntB_perm (h1.append h2) h1.length_eq q
/-- A list, from another place on. -/
def rotL (l : List Int) (b : Nat) : List Int := (List.range l.length).map fun i => rd l (((i + b) % l.length : Nat) : Int)
theorem rotL_len (l : List Int) (b : Nat) : (rotL l b).length = l.length := by unfold rotL; simp
theorem rotL_rd (l : List Int) (b : Nat) {i : Nat} (h : i < l.length) : rd (rotL l b) (i : Int) = rd l (((i + b) % l.length : Nat) : Int) := by
 unfold rotL
 rw [show rd (List.map (fun i => rd l (((i + b) % l.length : Nat) : Int)) (List.range l.length)) (i : Int) = rd l (((i + b) % l.length : Nat) : Int) from ?_]
 unfold rd
 rw [Int.toNat_natCast, List.getD_eq_getElem?_getD, List.getElem?_map, List.getElem?_range h]
 rfl
theorem rd_getElem (l : List Int) {i : Nat} (h : i < l.length) : rd l (i : Int) = l[i] := by
 unfold rd
 rw [Int.toNat_natCast, List.getD_eq_getElem?_getD, List.getElem?_eq_getElem h]
 rfl
theorem rotL_eq (l : List Int) (b : Nat) (hl : 0 < l.length) : rotL l b = l.drop (b % l.length) ++ l.take (b % l.length) := by
 have hr := Nat.mod_lt b hl
 refine List.ext_getElem (by rw [rotL_len, List.length_append, List.length_drop, List.length_take]; omega) fun i h1 h2 => ?_
 rw [rotL_len] at h1
 have e : (rotL l b)[i]'(by rw [rotL_len]; exact h1) = rd l (((i + b) % l.length : Nat) : Int) := by
  rw [← rd_getElem, rotL_rd l b h1]
 rw [e]
 have hm := Nat.mod_lt (i + b) hl
 rw [rd_getElem l hm]
 by_cases c : i < (l.drop (b % l.length)).length
 · rw [List.getElem_append_left c, List.getElem_drop]
   rw [List.length_drop] at c
   congr 1
   rw [Nat.add_mod, Nat.mod_eq_of_lt h1, Nat.mod_eq_of_lt (by omega)]
   omega
 · rw [List.getElem_append_right (by omega), List.getElem_take]
   rw [List.length_drop] at c
   congr 1
   rw [List.length_drop, Nat.add_mod, Nat.mod_eq_of_lt h1, Nat.mod_eq_sub_mod (by omega), Nat.mod_eq_of_lt (by omega)]
   omega
theorem rotL_perm (l : List Int) (b : Nat) : (rotL l b).Perm l := by
 by_cases hl : 0 < l.length
 · rw [rotL_eq l b hl]
   have h := List.perm_append_comm (l₁ := l.drop (b % l.length)) (l₂ := l.take (b % l.length))
   rw [List.take_append_drop] at h
   exact h
 · have : l = [] := List.length_eq_zero_iff.1 (by omega)
   subst this
   exact List.Perm.refl _
theorem farI_rev (x M : Int) : farI (2 * M - x) M = farI x M := by
 unfold farI mx
 split <;> split <;> omega
/-- What Tails and Chance say of samples that are exchanged in one of these ways. -/
theorem exch_rev (a b c d : List Int) (hl : c.length * d.length = a.length * b.length) (hB : beatsI c d = 2 * (a.length : Int) * b.length - beatsI a b) (hc : ∀ q, cntB c d q = cntB a b (fun x => q (2 * (a.length : Int) * b.length - x))) :
  cntB c d (fun x => decide (x ≤ beatsI c d)) = cntB a b (fun x => decide (beatsI a b ≤ x)) ∧ cntB c d (fun x => decide (beatsI c d ≤ x)) = cntB a b (fun x => decide (x ≤ beatsI a b)) ∧ cntB c d (fun _ => true) = cntB a b (fun _ => true) ∧ chanceI c d = chanceI a b := by
 obtain ⟨M, hM⟩ : ∃ M, M = (a.length : Int) * (b.length : Int) := ⟨_, rfl⟩
 have h2 : 2 * (a.length : Int) * (b.length : Int) = 2 * M := by rw [Int.mul_assoc, ← hM]
 have hM' : (c.length : Int) * (d.length : Int) = M := by rw [hM, ← Int.natCast_mul, ← Int.natCast_mul, hl]
 rw [h2] at hB hc
 rw [hB]
 refine ⟨?_, ?_, hc _, ?_⟩
 · rw [hc]
   congr 1
   funext x
   rw [decide_eq_decide]
   omega
 · rw [hc]
   congr 1
   funext x
   rw [decide_eq_decide]
   omega
 · unfold chanceI
   rw [hB, hM', ← hM, hc, hc]
   congr 1
   congr 1
   funext x
   rw [farI_rev, farI_rev]
theorem exch_same (a b c d : List Int) (hl : c.length * d.length = a.length * b.length) (hB : beatsI c d = beatsI a b) (hc : ∀ q, cntB c d q = cntB a b q) :
  cntB c d (fun x => decide (x ≤ beatsI c d)) = cntB a b (fun x => decide (x ≤ beatsI a b)) ∧ cntB c d (fun x => decide (beatsI c d ≤ x)) = cntB a b (fun x => decide (beatsI a b ≤ x)) ∧ cntB c d (fun _ => true) = cntB a b (fun _ => true) ∧ chanceI c d = chanceI a b := by
 have hM' : (c.length : Int) * (d.length : Int) = (a.length : Int) * (b.length : Int) := by rw [← Int.natCast_mul, ← Int.natCast_mul, hl]
 rw [hB]
 refine ⟨hc _, hc _, hc _, ?_⟩
 unfold chanceI
 rw [hB, hM', hc, hc]
theorem allS_perm {rs rs' : List Int} (h : rs.Perm rs') : ∀ q : Int → Bool, (allS rs).countP q = (allS rs').countP q := by
 induction h with
 | nil => intro q; rfl
 | cons x _ ih => intro q; rw [allS_count, allS_count, ih, ih]
 | swap x y l =>
  intro q
  rw [allS_count, allS_count, allS_count, allS_count, allS_count, allS_count]
  have e1 : (allS l).countP (fun t => q (t + x + y)) = (allS l).countP (fun t => q (t + y + x)) := List.countP_congr fun t _ => by rw [show t + x + y = t + y + x by omega]
  have e2 : (allS l).countP (fun t => q (t - x + y)) = (allS l).countP (fun t => q (t + y - x)) := List.countP_congr fun t _ => by rw [show t - x + y = t + y - x by omega]
  have e3 : (allS l).countP (fun t => q (t + x - y)) = (allS l).countP (fun t => q (t - y + x)) := List.countP_congr fun t _ => by rw [show t + x - y = t - y + x by omega]
  have e4 : (allS l).countP (fun t => q (t - x - y)) = (allS l).countP (fun t => q (t - y - x)) := List.countP_congr fun t _ => by rw [show t - x - y = t - y - x by omega]
  rw [e1, e2, e3, e4]
  omega
 | trans _ _ h1 h2 => intro q; rw [h1, h2]
/-- The signed sum of a list of pairs. -/
def sgn1 (p : Int × Int) : Int := if p.1 < p.2 then 1 else -1
def neP (p : Int × Int) : Bool := decide (p.1 ≠ p.2)
def psL (l : List (Int × Int)) : Int := sumI ((l.filter neP).map fun p => sgn1 p * rankI (dfI l) (farI p.1 p.2))
theorem dot_map {α : Type} (f g : α → Int) : ∀ l : List α, dotI (l.map f) (l.map g) = sumI (l.map fun x => f x * g x)
 | [] => rfl
 | x :: l => by simp only [List.map_cons, dotI, sumI, dot_map f g l]
theorem psum_psL (a b : List Int) : psum a b = psL (pairsL a b) := by
 unfold psum psL ranksI
 have e : (dfI (pairsL a b)).map (rankI (dfI (pairsL a b))) = ((pairsL a b).filter neP).map (fun p => rankI (dfI (pairsL a b)) (farI p.1 p.2)) := by
  conv => lhs; rw [show dfI (pairsL a b) = ((pairsL a b).filter neP).map (fun p => farI p.1 p.2) from rfl]
  rw [List.map_map]
  rfl
 rw [e]
 exact dot_map sgn1 _ _
theorem rankI_perm {D D' : List Int} (h : D.Perm D') (x : Int) : rankI D x = rankI D' x := by
 unfold rankI
 rw [sumI_perm (h.map _)]
theorem dfI_perm {l l' : List (Int × Int)} (h : l.Perm l') : (dfI l).Perm (dfI l') := (h.filter _).map _
theorem psL_perm {l l' : List (Int × Int)} (h : l.Perm l') : psL l = psL l' := by
 unfold psL
 rw [sumI_perm ((h.filter neP).map _)]
 exact sumI_congr _ _ _ fun p _ => by rw [rankI_perm (dfI_perm h)]
theorem ranksI_perm {D D' : List Int} (h : D.Perm D') : (ranksI D).Perm (ranksI D') := by
 unfold ranksI
 rw [show D.map (rankI D) = D.map (rankI D') from List.map_congr_left fun x _ => rankI_perm h x]
 exact h.map _
/-- The paired chance of a list of pairs. -/
def pcL (l : List (Int × Int)) : Int × Int := lowI ((allS (ranksI (dfI l))).countP fun x => decide (farI (psL l) 0 ≤ farI x 0)) (2 ^ (dfI l).length)
theorem pchance_pcL (a b : List Int) : pchance a b = pcL (pairsL a b) := by
 unfold pchance pcL
 rw [psum_psL]
theorem pcL_perm {l l' : List (Int × Int)} (h : l.Perm l') : pcL l = pcL l' := by
 unfold pcL
 rw [allS_perm (ranksI_perm (dfI_perm h)), psL_perm h, (dfI_perm h).length_eq]
theorem score5' (x y : Int) : scoreI (5 * x) (5 * y) = scoreI x y := by
 unfold scoreI
 split <;> split <;> (try split) <;> (try split) <;> omega
theorem far5 (x y : Int) : farI (5 * x + 2) (5 * y + 2) = 5 * farI x y := by
 unfold farI mx
 split <;> split <;> omega
def up5 (p : Int × Int) : Int × Int := (5 * p.1 + 2, 5 * p.2 + 2)
theorem df5 (l : List (Int × Int)) : dfI (l.map up5) = (dfI l).map (fun x => 5 * x) := by
 unfold dfI
 rw [List.filter_map, List.map_map, List.map_map]
 have e : ((fun p : Int × Int => decide (p.1 ≠ p.2)) ∘ up5) = (fun p : Int × Int => decide (p.1 ≠ p.2)) := by
  funext p
  show decide ((up5 p).1 ≠ (up5 p).2) = decide (p.1 ≠ p.2)
  refine decide_eq_decide.2 ?_
  unfold up5
  simp only
  omega
 rw [e]
 exact List.map_congr_left fun p _ => far5 _ _
theorem rank5 (D : List Int) (x : Int) : rankI (D.map fun y => 5 * y) (5 * x) = rankI D x := by
 unfold rankI
 rw [List.map_map]
 congr 1
 exact sumI_congr _ _ _ fun y _ => score5' y x
theorem ps5 (l : List (Int × Int)) : psL (l.map up5) = psL l := by
 unfold psL
 rw [df5, List.filter_map, List.map_map]
 have e : (neP ∘ up5) = neP := by
  funext p
  show decide ((up5 p).1 ≠ (up5 p).2) = decide (p.1 ≠ p.2)
  refine decide_eq_decide.2 ?_
  unfold up5
  simp only
  omega
 rw [e]
 refine sumI_congr _ _ _ fun p _ => ?_
 show sgn1 (up5 p) * rankI _ (farI (5 * p.1 + 2) (5 * p.2 + 2)) = _
 rw [far5, rank5]
 congr 1
 unfold sgn1 up5
 simp only
 by_cases c : p.1 < p.2
 · rw [if_pos c, if_pos (by omega)]
 · rw [if_neg c, if_neg (by omega)]
theorem pc5 (l : List (Int × Int)) : pcL (l.map up5) = pcL l := by
 unfold pcL
 rw [ps5, df5]
 have e : ranksI ((dfI l).map fun x => 5 * x) = ranksI (dfI l) := by
  unfold ranksI
  rw [List.map_map]
  exact List.map_congr_left fun x _ => rank5 _ _
 rw [e, List.length_map]
def flip2 (p : Int × Int) : Int × Int := (p.2, p.1)
theorem df_flip (l : List (Int × Int)) : dfI (l.map flip2) = dfI l := by
 unfold dfI
 rw [List.filter_map, List.map_map]
 have e : ((fun p : Int × Int => decide (p.1 ≠ p.2)) ∘ flip2) = (fun p : Int × Int => decide (p.1 ≠ p.2)) := by
  funext p
  show decide (p.2 ≠ p.1) = decide (p.1 ≠ p.2)
  exact decide_eq_decide.2 ⟨Ne.symm, Ne.symm⟩
 rw [e]
 exact List.map_congr_left fun p _ => farI_comm _ _
theorem sumI_negL {α : Type} (f : α → Int) : ∀ l : List α, sumI (l.map fun x => -f x) = -sumI (l.map f)
 | [] => rfl
 | x :: l => by simp only [List.map_cons, sumI, sumI_negL f l]; omega
theorem ps_flip (l : List (Int × Int)) : psL (l.map flip2) = -psL l := by
 unfold psL
 rw [df_flip, List.filter_map, List.map_map, ← sumI_negL]
 have e : (neP ∘ flip2) = neP := by
  funext p
  show decide (p.2 ≠ p.1) = decide (p.1 ≠ p.2)
  exact decide_eq_decide.2 ⟨Ne.symm, Ne.symm⟩
 rw [e]
 refine sumI_congr _ _ _ fun p hp => ?_
 have hne : p.1 ≠ p.2 := by
  have := (List.mem_filter.1 hp).2
  unfold neP at this
  exact of_decide_eq_true this
 show sgn1 (flip2 p) * rankI _ (farI p.2 p.1) = _
 rw [farI_comm, ← Int.neg_mul]
 congr 1
 unfold sgn1 flip2
 simp only
 by_cases c : p.1 < p.2
 · rw [if_pos c, if_neg (by omega)]
 · rw [if_neg c, if_pos (by omega)]
   rfl
theorem far_neg (x : Int) : farI (-x) 0 = farI x 0 := by
 unfold farI mx
 split <;> split <;> omega
theorem pc_flip (l : List (Int × Int)) : pcL (l.map flip2) = pcL l := by
 unfold pcL
 rw [ps_flip, df_flip, far_neg]
theorem zip_flip : ∀ a b : List Int, a.zip b = (b.zip a).map flip2
 | [], b => by cases b <;> rfl
 | x :: a, [] => rfl
 | x :: a, y :: b => by rw [List.zip_cons_cons, List.zip_cons_cons, List.map_cons, zip_flip a b]; rfl
theorem zip_map5 : ∀ a b : List Int, (a.map fun x => 5 * x + 2).zip (b.map fun x => 5 * x + 2) = (a.zip b).map up5
 | [], b => by cases b <;> rfl
 | x :: a, [] => rfl
 | x :: a, y :: b => by rw [List.map_cons, List.map_cons, List.zip_cons_cons, List.zip_cons_cons, List.map_cons, zip_map5 a b]; rfl
theorem zip_rot (a b : List Int) (k : Nat) (hl : a.length = b.length) (h0 : 0 < a.length) : ((rotL a k).zip (rotL b k)).Perm (a.zip b) := by
 rw [rotL_eq a k h0, rotL_eq b k (by omega), ← hl, List.zip_append (by rw [List.length_drop, List.length_drop, hl])]
 have h1 : (a.drop (k % a.length)).zip (b.drop (k % a.length)) = (a.zip b).drop (k % a.length) := by unfold List.zip; rw [List.drop_zipWith]
 have h2 : (a.take (k % a.length)).zip (b.take (k % a.length)) = (a.zip b).take (k % a.length) := by unfold List.zip; rw [List.take_zipWith]
 rw [h1, h2]
 have h := List.perm_append_comm (l₁ := (a.zip b).drop (k % a.length)) (l₂ := (a.zip b).take (k % a.length))
 rw [List.take_append_drop] at h
 exact h
/-- Pairs in another order, moved and multiplied. -/
theorem paired_rot (a b : List Int) (k : Nat) (hl : a.length = b.length) (h0 : 0 < a.length) :
  psum ((rotL a k).map fun x => 5 * x + 2) ((rotL b k).map fun x => 5 * x + 2) = psum a b ∧ pchance ((rotL a k).map fun x => 5 * x + 2) ((rotL b k).map fun x => 5 * x + 2) = pchance a b := by
 have hp := zip_rot a b k hl h0
 rw [psum_psL, psum_psL, pchance_pcL, pchance_pcL]
 unfold pairsL
 rw [zip_map5, ps5, pc5]
 exact ⟨psL_perm hp, pcL_perm hp⟩
theorem paired_flip (a b : List Int) : psum b a = -psum a b ∧ pchance b a = pchance a b := by
 rw [psum_psL, psum_psL, pchance_pcL, pchance_pcL]
 unfold pairsL
 rw [zip_flip b a, ps_flip, pc_flip]
 exact ⟨rfl, rfl⟩

end Go.Proofs.Ythddeillkdediaa.H

/- Two pairs of own rows, kept in two boxes. -/
namespace Go.Proofs.Ythddeillkdediaa.H
open Go.RowKit Go.Proofs.YthddeillkdediaaW.PrintWords Go.Proofs.YthddeillkdediaaW.PrintLast Go.Proofs.YthddeillkdediaaW.PrintMore
open Go.Shelf Go.Proofs.Ythddeillkdediaa.QA
set_option linter.unusedVariables false
set_option linter.unusedSimpArgs false


/-- Two pairs of own rows, kept in two boxes. -/
structure X4 (w : World) (B g12 g13 : Nat) (m0 m1 n0 n1 : Value) (M0 M1 N0 N1 : List Int) : Prop where
 c12 : w.heap[g12]? = some (.cells #[m0, m1] 63 (0, 0))
 c13 : w.heap[g13]? = some (.cells #[n0, n1] 63 (0, 0))
 o0 : OwnI w B m0 M0
 o1 : OwnI w B m1 M1
 o2 : OwnI w B n0 N0
 o3 : OwnI w B n1 N1
 d01 : ∀ k, m0.ownBlock = some k → m1.ownBlock ≠ some k
 d02 : ∀ k, m0.ownBlock = some k → n0.ownBlock ≠ some k
 d03 : ∀ k, m0.ownBlock = some k → n1.ownBlock ≠ some k
 d12 : ∀ k, m1.ownBlock = some k → n0.ownBlock ≠ some k
 d13 : ∀ k, m1.ownBlock = some k → n1.ownBlock ≠ some k
 d23 : ∀ k, n0.ownBlock = some k → n1.ownBlock ≠ some k
 lt : g12 < B ∧ g13 < B ∧ g12 ≠ g13
variable {w w' : World} {B g12 g13 : Nat} {m0 m1 n0 n1 : Value} {M0 M1 N0 N1 : List Int}
theorem OwnI.set {v u : Value} {xs : List Int} {g j : Nat} (h : OwnI w B v xs) (hg : g < B) : OwnI (w.setCell ⟨g, j, none⟩ u) B v xs := own_keptI h fun k cur e hk => blk_far hk (show k ≠ g by have := (h.lt k e).1; omega) u
theorem X4.below (h : X4 w B g12 g13 m0 m1 n0 n1 M0 M1 N0 N1) (hb : Below w.heap.size w w') : X4 w' B g12 g13 m0 m1 n0 n1 M0 M1 N0 N1 :=
 ⟨blk_below2 hb h.c12, blk_below2 hb h.c13, h.o0.below hb, h.o1.below hb, h.o2.below hb, h.o3.below hb, h.d01, h.d02, h.d03, h.d12, h.d13, h.d23, h.lt⟩
/-- Row 0 grows. -/
theorem X4.step0 {x : Int} {tmp : Obj} {v' : Value} (h : X4 w B g12 g13 m0 m1 n0 n1 M0 M1 N0 N1) (hB : B ≤ w.heap.size) (hO : OwnI w' B v' (M0 ++ [x])) (hb : Below B (w.alloc tmp) w') (hg : (w.alloc tmp).grownBy w' m0.ownBlock) (ho : v'.ownBlock = m0.ownBlock ∨ v'.ownBlock = some (w.alloc tmp).heap.size) :
  X4 (w'.setCell ⟨g12, 0, none⟩ v') B g12 g13 v' m1 n0 n1 (M0 ++ [x]) M1 N0 N1 := by
 have ha := below_alloc (Below.refl w.heap.size w) tmp
 have hl := h.lt
 have e12 : w'.heap[g12]? = some (.cells #[m0, m1] 63 (0, 0)) := (hb.block g12 hl.1).trans (blk_below2 ha h.c12)
 have e13 : w'.heap[g13]? = some (.cells #[n0, n1] 63 (0, 0)) := (hb.block g13 hl.2.1).trans (blk_below2 ha h.c13)
 have f1 : ∀ k, m1.ownBlock = some k → k < (w.alloc tmp).heap.size := fun k hk => by have := (h.o1.lt k hk).2; rw [World.size_alloc]; omega
 have f2 : ∀ k, n0.ownBlock = some k → k < (w.alloc tmp).heap.size := fun k hk => by have := (h.o2.lt k hk).2; rw [World.size_alloc]; omega
 have f3 : ∀ k, n1.ownBlock = some k → k < (w.alloc tmp).heap.size := fun k hk => by have := (h.o3.lt k hk).2; rw [World.size_alloc]; omega
 have q1 : OwnI w' B m1 M1 := (h.o1.below ha).grown hg (fun k hk e => (dist_sym h.d01) k hk e)
 have q2 : OwnI w' B n0 N0 := (h.o2.below ha).grown hg (fun k hk e => (dist_sym h.d02) k hk e)
 have q3 : OwnI w' B n1 N1 := (h.o3.below ha).grown hg (fun k hk e => (dist_sym h.d03) k hk e)
 exact ⟨by simpa using blk_set e12 0 v', blk_far e13 hl.2.2.symm v', hO.set hl.1, q1.set hl.1, q2.set hl.1, q3.set hl.1, dist_app h.d01 ho f1, dist_app h.d02 ho f2, dist_app h.d03 ho f3, h.d12, h.d13, h.d23, h.lt⟩
/-- Row 1 grows. -/
theorem X4.step1 {x : Int} {tmp : Obj} {v' : Value} (h : X4 w B g12 g13 m0 m1 n0 n1 M0 M1 N0 N1) (hB : B ≤ w.heap.size) (hO : OwnI w' B v' (M1 ++ [x])) (hb : Below B (w.alloc tmp) w') (hg : (w.alloc tmp).grownBy w' m1.ownBlock) (ho : v'.ownBlock = m1.ownBlock ∨ v'.ownBlock = some (w.alloc tmp).heap.size) :
  X4 (w'.setCell ⟨g12, 1, none⟩ v') B g12 g13 m0 v' n0 n1 M0 (M1 ++ [x]) N0 N1 := by
 have ha := below_alloc (Below.refl w.heap.size w) tmp
 have hl := h.lt
 have e12 : w'.heap[g12]? = some (.cells #[m0, m1] 63 (0, 0)) := (hb.block g12 hl.1).trans (blk_below2 ha h.c12)
 have e13 : w'.heap[g13]? = some (.cells #[n0, n1] 63 (0, 0)) := (hb.block g13 hl.2.1).trans (blk_below2 ha h.c13)
 have f0 : ∀ k, m0.ownBlock = some k → k < (w.alloc tmp).heap.size := fun k hk => by have := (h.o0.lt k hk).2; rw [World.size_alloc]; omega
 have f2 : ∀ k, n0.ownBlock = some k → k < (w.alloc tmp).heap.size := fun k hk => by have := (h.o2.lt k hk).2; rw [World.size_alloc]; omega
 have f3 : ∀ k, n1.ownBlock = some k → k < (w.alloc tmp).heap.size := fun k hk => by have := (h.o3.lt k hk).2; rw [World.size_alloc]; omega
 have q0 : OwnI w' B m0 M0 := (h.o0.below ha).grown hg (fun k hk e => h.d01 k hk e)
 have q2 : OwnI w' B n0 N0 := (h.o2.below ha).grown hg (fun k hk e => (dist_sym h.d12) k hk e)
 have q3 : OwnI w' B n1 N1 := (h.o3.below ha).grown hg (fun k hk e => (dist_sym h.d13) k hk e)
 exact ⟨by simpa using blk_set e12 1 v', blk_far e13 hl.2.2.symm v', q0.set hl.1, hO.set hl.1, q2.set hl.1, q3.set hl.1, dist_sym (dist_app (dist_sym h.d01) ho f0), h.d02, h.d03, dist_app h.d12 ho f2, dist_app h.d13 ho f3, h.d23, h.lt⟩
/-- Row 2 grows. -/
theorem X4.step2 {x : Int} {tmp : Obj} {v' : Value} (h : X4 w B g12 g13 m0 m1 n0 n1 M0 M1 N0 N1) (hB : B ≤ w.heap.size) (hO : OwnI w' B v' (N0 ++ [x])) (hb : Below B (w.alloc tmp) w') (hg : (w.alloc tmp).grownBy w' n0.ownBlock) (ho : v'.ownBlock = n0.ownBlock ∨ v'.ownBlock = some (w.alloc tmp).heap.size) :
  X4 (w'.setCell ⟨g13, 0, none⟩ v') B g12 g13 m0 m1 v' n1 M0 M1 (N0 ++ [x]) N1 := by
 have ha := below_alloc (Below.refl w.heap.size w) tmp
 have hl := h.lt
 have e12 : w'.heap[g12]? = some (.cells #[m0, m1] 63 (0, 0)) := (hb.block g12 hl.1).trans (blk_below2 ha h.c12)
 have e13 : w'.heap[g13]? = some (.cells #[n0, n1] 63 (0, 0)) := (hb.block g13 hl.2.1).trans (blk_below2 ha h.c13)
 have f0 : ∀ k, m0.ownBlock = some k → k < (w.alloc tmp).heap.size := fun k hk => by have := (h.o0.lt k hk).2; rw [World.size_alloc]; omega
 have f1 : ∀ k, m1.ownBlock = some k → k < (w.alloc tmp).heap.size := fun k hk => by have := (h.o1.lt k hk).2; rw [World.size_alloc]; omega
 have f3 : ∀ k, n1.ownBlock = some k → k < (w.alloc tmp).heap.size := fun k hk => by have := (h.o3.lt k hk).2; rw [World.size_alloc]; omega
 have q0 : OwnI w' B m0 M0 := (h.o0.below ha).grown hg (fun k hk e => h.d02 k hk e)
 have q1 : OwnI w' B m1 M1 := (h.o1.below ha).grown hg (fun k hk e => h.d12 k hk e)
 have q3 : OwnI w' B n1 N1 := (h.o3.below ha).grown hg (fun k hk e => (dist_sym h.d23) k hk e)
 exact ⟨blk_far e12 hl.2.2 v', by simpa using blk_set e13 0 v', q0.set hl.2.1, q1.set hl.2.1, hO.set hl.2.1, q3.set hl.2.1, h.d01, dist_sym (dist_app (dist_sym h.d02) ho f0), h.d03, dist_sym (dist_app (dist_sym h.d12) ho f1), h.d13, dist_app h.d23 ho f3, h.lt⟩
/-- Row 3 grows. -/
theorem X4.step3 {x : Int} {tmp : Obj} {v' : Value} (h : X4 w B g12 g13 m0 m1 n0 n1 M0 M1 N0 N1) (hB : B ≤ w.heap.size) (hO : OwnI w' B v' (N1 ++ [x])) (hb : Below B (w.alloc tmp) w') (hg : (w.alloc tmp).grownBy w' n1.ownBlock) (ho : v'.ownBlock = n1.ownBlock ∨ v'.ownBlock = some (w.alloc tmp).heap.size) :
  X4 (w'.setCell ⟨g13, 1, none⟩ v') B g12 g13 m0 m1 n0 v' M0 M1 N0 (N1 ++ [x]) := by
 have ha := below_alloc (Below.refl w.heap.size w) tmp
 have hl := h.lt
 have e12 : w'.heap[g12]? = some (.cells #[m0, m1] 63 (0, 0)) := (hb.block g12 hl.1).trans (blk_below2 ha h.c12)
 have e13 : w'.heap[g13]? = some (.cells #[n0, n1] 63 (0, 0)) := (hb.block g13 hl.2.1).trans (blk_below2 ha h.c13)
 have f0 : ∀ k, m0.ownBlock = some k → k < (w.alloc tmp).heap.size := fun k hk => by have := (h.o0.lt k hk).2; rw [World.size_alloc]; omega
 have f1 : ∀ k, m1.ownBlock = some k → k < (w.alloc tmp).heap.size := fun k hk => by have := (h.o1.lt k hk).2; rw [World.size_alloc]; omega
 have f2 : ∀ k, n0.ownBlock = some k → k < (w.alloc tmp).heap.size := fun k hk => by have := (h.o2.lt k hk).2; rw [World.size_alloc]; omega
 have q0 : OwnI w' B m0 M0 := (h.o0.below ha).grown hg (fun k hk e => h.d03 k hk e)
 have q1 : OwnI w' B m1 M1 := (h.o1.below ha).grown hg (fun k hk e => h.d13 k hk e)
 have q2 : OwnI w' B n0 N0 := (h.o2.below ha).grown hg (fun k hk e => h.d23 k hk e)
 exact ⟨blk_far e12 hl.2.2 v', by simpa using blk_set e13 1 v', q0.set hl.2.1, q1.set hl.2.1, q2.set hl.2.1, hO.set hl.2.1, h.d01, h.d02, dist_sym (dist_app (dist_sym h.d03) ho f0), h.d12, dist_sym (dist_app (dist_sym h.d13) ho f1), dist_sym (dist_app (dist_sym h.d23) ho f2), h.lt⟩

theorem score_aff (A T x y : Int) (hT : 1 ≤ T) : scoreI (A + T * x) (A + T * y) = scoreI x y := by
 have h1 : A + T * x < A + T * y ↔ x < y := ⟨fun h => Int.lt_of_mul_lt_mul_left (show T * x < T * y by omega) (by omega), fun h => by have := Int.mul_lt_mul_of_pos_left h (show 0 < T by omega); omega⟩
 have h2 : A + T * x = A + T * y ↔ x = y := ⟨fun h => Int.eq_of_mul_eq_mul_left (show T ≠ 0 by omega) (show T * x = T * y by omega), fun h => by rw [h]⟩
 unfold scoreI
 by_cases c1 : x < y
 · rw [if_pos (h1.2 c1), if_pos c1]
 · rw [if_neg (fun h => c1 (h1.1 h)), if_neg c1]
   by_cases c2 : x = y
   · rw [if_pos (h2.2 c2), if_pos c2]
   · rw [if_neg (fun h => c2 (h2.1 h)), if_neg c2]
theorem score_neg (x y : Int) : scoreI (-x) (-y) = scoreI y x := by
 unfold scoreI
 by_cases c1 : y < x
 · rw [if_pos (by omega), if_pos c1]
 · rw [if_neg (by omega), if_neg c1]
   by_cases c2 : y = x
   · rw [if_pos (by omega), if_pos c2]
   · rw [if_neg (by omega), if_neg c2]

end Go.Proofs.Ythddeillkdediaa.H
