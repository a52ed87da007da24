/- Texts PT, PU of this chapter, one behind the other. -/
import Derived.Test.YthddeillkdediaaQA3
import Derived.Test.YthddeillkdediaaQA5
import Derived.Test.YthddeillkdediaaXI

/- Plain law: the reference's Tails and Chance are ours. -/
namespace Go.Proofs.Ythddeillkdediaa.H
open Go.RowKit Go.Proofs.YthddeillkdediaaW.PrintWords Go.Proofs.YthddeillkdediaaW.PrintLast Go.Proofs.YthddeillkdediaaW.PrintMore
open Go.Shelf Go.Proofs.Ythddeillkdediaa.QA
set_option linter.unusedVariables false
set_option linter.unusedSimpArgs false


theorem rd_map (U : List Int) (F : Int → Int) {i : Nat} (h : i < U.length) : rd (U.map F) (i : Int) = F (rd U (i : Int)) := by
 unfold rd
 rw [Int.toNat_natCast, List.getD_eq_getElem?_getD, List.getD_eq_getElem?_getD, List.getElem?_map, List.getElem?_eq_getElem h]
 rfl
theorem beatsU_len (a b : List Int) : (beatsU a b).length = 2 * a.length * b.length + 1 := by unfold beatsU; simp
theorem rd_beatsU (a b : List Int) {i : Nat} (h : i < (beatsU a b).length) : rd (beatsU a b) (i : Int) = (i : Int) := by
 rw [beatsU_len] at h
 unfold rd beatsU
 rw [Int.toNat_natCast, List.getD_eq_getElem?_getD, List.getElem?_map, List.getElem?_range h]
 rfl
/-- Sums over the first few. -/
def psI (U : List Int) (q : Int → Bool) (F : Int → Int) (i : Nat) : Int := sumI ((U.take i).map (keep q F))
theorem psI_succ (U : List Int) (q : Int → Bool) (F : Int → Int) {i : Nat} (h : i < U.length) : psI U q F (i + 1) = psI U q F i + keep q F (rd U (i : Int)) := by
 unfold psI
 rw [take_rd U h, sum_snoc]
theorem psI_all (U : List Int) (q : Int → Bool) (F : Int → Int) : psI U q F U.length = sumI (U.map (keep q F)) := by
 unfold psI
 rw [List.take_length]
theorem psI_in (U : List Int) (q : Int → Bool) (F : Int → Int) (hF : ∀ x, 0 ≤ F x) (i : Nat) : 0 ≤ psI U q F i ∧ psI U q F i ≤ sumI (U.map (keep q F)) := by
 have h1 := (keep_le (U := U.take i) q hF).1
 have h2 := (keep_le (U := U.drop i) q hF).1
 have h3 : sumI (U.map (keep q F)) = sumI ((U.take i).map (keep q F)) + sumI ((U.drop i).map (keep q F)) := by
  rw [← sumI_append, ← List.map_append, List.take_append_drop]
 unfold psI
 omega
theorem ps_cnt (a b : List Int) (ha : a.length ≤ 16) (hb : b.length ≤ 16) (q : Int → Bool) (i : Nat) : 0 ≤ psI (beatsU a b) q (chF a b) i ∧ psI (beatsU a b) q (chF a b) i ≤ 4294967296 := by
 have h := psI_in (beatsU a b) q (chF a b) (chF_pos a b) i
 rw [chF_sum] at h
 have := cnt_small a b q ha hb
 omega
theorem ps_step (a b : List Int) (ha : a.length ≤ 16) (hb : b.length ≤ 16) (q : Int → Bool) {i : Nat} (h : i < (beatsU a b).length) (hq : q (i : Int) = true) :
  wrap64 (psI (beatsU a b) q (chF a b) i + rd ((beatsU a b).map (chF a b)) (i : Int)) = psI (beatsU a b) q (chF a b) (i + 1) := by
 have h1 := ps_cnt a b ha hb q (i + 1)
 rw [psI_succ _ _ _ h, rd_beatsU a b h] at h1
 unfold keep at h1
 rw [if_pos hq] at h1
 rw [rd_map _ _ h, rd_beatsU a b h, w64' _ (by omega) (by omega), psI_succ _ _ _ h, rd_beatsU a b h]
 unfold keep
 rw [if_pos hq]
theorem ps_stay (a b : List Int) (q : Int → Bool) {i : Nat} (h : i < (beatsU a b).length) (hq : ¬ q (i : Int) = true) :
  psI (beatsU a b) q (chF a b) (i + 1) = psI (beatsU a b) q (chF a b) i := by
 rw [psI_succ _ _ _ h, rd_beatsU a b h]
 unfold keep
 rw [if_neg hq, Int.add_zero]
theorem U_small (a b : List Int) (ha : a.length ≤ 16) (hb : b.length ≤ 16) : (beatsU a b).length ≤ 513 := by
 rw [beatsU_len]
 have : 2 * a.length * b.length ≤ 32 * 16 := Nat.mul_le_mul (by omega) hb
 omega
theorem rtails_l (a b : List Int) (ha : a.length ≤ 16) (hb : b.length ≤ 16) (own : Int) : ∀ (m k i : Nat), (beatsU a b).length - i = m → i ≤ (beatsU a b).length → m + 1 ≤ k →
  pianolaref10_Tails.l0 k own ((beatsU a b).map (chF a b)) (psI (beatsU a b) (fun x => decide (x ≤ own)) (chF a b) i) (psI (beatsU a b) (fun x => decide (own ≤ x)) (chF a b) i) (psI (beatsU a b) (fun _ => true) (chF a b) i) (i : Int)
   = some (((cntB a b (fun x => decide (x ≤ own)) : Nat) : Int), ((cntB a b (fun x => decide (own ≤ x)) : Nat) : Int), ((cntB a b (fun _ => true) : Nat) : Int), 0) := by
 intro m
 induction m with
 | zero =>
  intro k i h1 h2 h3
  obtain rfl : i = (beatsU a b).length := by omega
  obtain ⟨k, rfl⟩ : ∃ k', k = k' + 1 := ⟨k - 1, by omega⟩
  unfold pianolaref10_Tails.l0
  rw [if_neg (by rw [List.length_map]; omega), psI_all, psI_all, psI_all, chF_sum, chF_sum, chF_sum]
 | succ m ih =>
  intro k i h1 h2 h3
  have hlt : i < (beatsU a b).length := by omega
  obtain ⟨k, rfl⟩ : ∃ k', k = k' + 1 := ⟨k - 1, by omega⟩
  have h4 := ih k (i + 1) (by omega) hlt (by omega)
  have hU := U_small a b ha hb
  unfold pianolaref10_Tails.l0
  rw [if_pos (by rw [List.length_map]; omega), if_pos (by omega), wrap_up i (by omega), ps_step a b ha hb (fun _ => true) hlt rfl]
  by_cases c1 : (i : Int) ≤ own
  · rw [if_pos c1, ps_step a b ha hb (fun x => decide (x ≤ own)) hlt (decide_eq_true c1)]
    by_cases c2 : own ≤ (i : Int)
    · rw [if_pos c2, ps_step a b ha hb (fun x => decide (own ≤ x)) hlt (decide_eq_true c2)]
      exact h4
    · rw [if_neg c2]
      rw [ps_stay a b (fun x => decide (own ≤ x)) hlt (by simpa using c2)] at h4
      exact h4
  · rw [if_neg c1]
    rw [ps_stay a b (fun x => decide (x ≤ own)) hlt (by simpa using c1)] at h4
    rw [if_pos (show (i : Int) ≥ own by omega), ps_step a b ha hb (fun x => decide (own ≤ x)) hlt (decide_eq_true (by omega))]
    exact h4
theorem rchoices_f {a b : List Int} (h : bothI a b = 0) : pianolaref10_choices.f a b = some ((beatsU a b).map (chF a b)) := by
 have h1 := chk_len (both_ok h).1
 have h2 := chk_len (both_ok h).2
 unfold pianolaref10_choices.f
 rw [if_pos ⟨by omega, by omega⟩]
theorem refTails_f (a b : List Int) (k : Nat) (hk : 2000 ≤ k) : pianolaref10_Tails.f k a b = hand_Tails.f a b := by
 unfold pianolaref10_Tails.f hand_Tails.f
 rw [refBoth_f a b k (by omega), Option.bind_some]
 by_cases h : bothI a b = 0
 · have hl := both_len h
   have hU := U_small a b hl.1 hl.2
   rw [if_pos h, if_pos h, rbeats_f a b k (by omega) (by omega) hk, Option.bind_some, rchoices_f h, Option.bind_some]
   exact rtails_l a b hl.1 hl.2 (beatsI a b) _ k 0 rfl (Nat.zero_le _) (by omega)
 · rw [if_neg h, if_neg h]
theorem rfar_f (x y : Int) (hx : -1000000000 ≤ x ∧ x ≤ 1000000000) (hy : -1000000000 ≤ y ∧ y ≤ 1000000000) : pianolaref10_far.f x y = some (farI x y) := by
 unfold pianolaref10_far.f farI
 rw [w64' (x - y) (by omega) (by omega), w64' (y - x) (by omega) (by omega)]
theorem least_l (s t : Nat) (ht : 0 < t) (hs : s ≤ 4611686018427387904) (ht2 : t ≤ 4611686018427387904) : ∀ (n x y k : Nat), y < 2 ^ n → 2 * n + 1 ≤ k → Nat.gcd x y = Nat.gcd s t → 0 < x →
  pianolaref10_Least.l0 k (s : Int) (t : Int) (x : Int) (y : Int) = some (lowI s t) := by
 have hend : ∀ (x k : Nat), Nat.gcd x 0 = Nat.gcd s t → 0 < x → pianolaref10_Least.l0 (k + 1) (s : Int) (t : Int) (x : Int) ((0 : Nat) : Int) = some (lowI s t) := fun x k hg hx => by
  unfold pianolaref10_Least.l0
  rw [if_neg (by omega), if_neg (by omega)]
  rw [Nat.gcd_zero_right] at hg
  have e1 : Int.tdiv (s : Int) (x : Int) = ((s / x : Nat) : Int) := rfl
  have e2 : Int.tdiv (t : Int) (x : Int) = ((t / x : Nat) : Int) := rfl
  have b1 := Nat.div_le_self s x
  have b2 := Nat.div_le_self t x
  rw [e1, e2]
  unfold lowI
  rw [← hg]
  generalize s / x = p1 at b1 ⊢
  generalize t / x = p2 at b2 ⊢
  rw [w64' _ (by omega) (by omega), w64' _ (by omega) (by omega)]
 have hstep : ∀ (x y k : Nat), 0 < y → pianolaref10_Least.l0 (k + 1) (s : Int) (t : Int) (x : Int) (y : Int) = pianolaref10_Least.l0 k (s : Int) (t : Int) (y : Int) ((x % y : Nat) : Int) := fun x y k hy => by
  rw [pianolaref10_Least.l0, if_pos (by omega), if_neg (by omega)]
  rfl
 have hgcd : ∀ x y : Nat, Nat.gcd y (x % y) = Nat.gcd x y := fun x y => by rw [Nat.gcd_comm x y, Nat.gcd_rec y x, Nat.gcd_comm]
 intro n
 induction n with
 | zero =>
  intro x y k hy hk hg hx
  obtain rfl : y = 0 := by simpa using hy
  obtain ⟨k, rfl⟩ : ∃ k', k = k' + 1 := ⟨k - 1, by omega⟩
  exact hend x k hg hx
 | succ n ih =>
  intro x y k hy hk hg hx
  obtain ⟨k, rfl⟩ : ∃ k', k = k' + 1 + 1 := ⟨k - 2, by omega⟩
  by_cases h0 : y = 0
  · subst h0
    exact hend x (k + 1) hg hx
  · have hy0 : 0 < y := by omega
    rw [hstep x y (k + 1) hy0]
    have hr := Nat.mod_lt x hy0
    by_cases h1 : x % y = 0
    · rw [h1]
      exact hend y k (by rw [← h1, hgcd, hg]) hy0
    · have hr0 : 0 < x % y := by omega
      rw [hstep y (x % y) k hr0]
      refine ih (x % y) (y % (x % y)) k ?_ (by omega) (by rw [hgcd, hgcd, hg]) hr0
      have h2 := Nat.mod_lt y hr0
      have h3 : y % (x % y) + (x % y) ≤ y := by
       have h4 := Nat.mod_add_div y (x % y)
       have h5 : 0 < y / (x % y) := Nat.div_pos (Nat.le_of_lt hr) hr0
       have h6 : (x % y) * 1 ≤ (x % y) * (y / (x % y)) := Nat.mul_le_mul_left _ h5
       omega
      rw [Nat.pow_succ] at hy
      omega
theorem rleast_f (s t k : Nat) (ht : 0 < t) (hs : s ≤ 4294967296) (ht2 : t ≤ 4294967296) (hk : 200 ≤ k) : pianolaref10_Least.f k (s : Int) (t : Int) = some (lowI s t) := by
 unfold pianolaref10_Least.f
 by_cases h0 : s = 0
 · subst h0
   obtain ⟨k, rfl⟩ : ∃ k', k = k' + 1 := ⟨k - 1, by omega⟩
   rw [pianolaref10_Least.l0, if_pos (by omega), if_neg (by omega)]
   have e : Int.tmod ((0 : Nat) : Int) (t : Int) = ((0 % t : Nat) : Int) := rfl
   rw [e, Nat.zero_mod]
   exact least_l 0 t ht (by omega) (by omega) 0 t 0 k (by omega) (by omega) (by rw [Nat.gcd_zero_right, Nat.gcd_zero_left]) ht
 · exact least_l s t ht (by omega) (by omega) 33 s t k (by omega) (by omega) rfl (by omega)
theorem rchance_l (a b : List Int) (ha : a.length ≤ 16) (hb : b.length ≤ 16) (mid own : Int) (hm : 0 ≤ mid ∧ mid ≤ 1000) (h0 : 0 < cntB a b (fun _ => true)) : ∀ (m k i : Nat), (beatsU a b).length - i = m → i ≤ (beatsU a b).length → m + 201 ≤ k →
  pianolaref10_Chance.l0 k mid own ((beatsU a b).map (chF a b)) (psI (beatsU a b) (fun x => decide (own ≤ farI x mid)) (chF a b) i) (psI (beatsU a b) (fun _ => true) (chF a b) i) (i : Int)
   = some ((lowI (cntB a b (fun x => decide (own ≤ farI x mid))) (cntB a b (fun _ => true))).1, (lowI (cntB a b (fun x => decide (own ≤ farI x mid))) (cntB a b (fun _ => true))).2, 0) := by
 intro m
 induction m with
 | zero =>
  intro k i h1 h2 h3
  obtain rfl : i = (beatsU a b).length := by omega
  obtain ⟨k, rfl⟩ : ∃ k', k = k' + 1 := ⟨k - 1, by omega⟩
  unfold pianolaref10_Chance.l0
  rw [if_neg (by rw [List.length_map]; omega), psI_all, psI_all, chF_sum, chF_sum, rleast_f _ _ k h0 (cnt_small a b _ ha hb) (cnt_small a b _ ha hb) (by omega)]
  rfl
 | succ m ih =>
  intro k i h1 h2 h3
  have hlt : i < (beatsU a b).length := by omega
  obtain ⟨k, rfl⟩ : ∃ k', k = k' + 1 := ⟨k - 1, by omega⟩
  have h4 := ih k (i + 1) (by omega) hlt (by omega)
  have hU := U_small a b ha hb
  unfold pianolaref10_Chance.l0
  rw [if_pos (by rw [List.length_map]; omega), if_pos (by omega), rfar_f _ _ (by omega) (by omega), Option.bind_some, wrap_up i (by omega), ps_step a b ha hb (fun _ => true) hlt rfl]
  by_cases c1 : own ≤ farI (i : Int) mid
  · rw [if_pos c1, ps_step a b ha hb (fun x => decide (own ≤ farI x mid)) hlt (decide_eq_true c1)]
    exact h4
  · rw [if_neg c1]
    rw [ps_stay a b (fun x => decide (own ≤ farI x mid)) hlt (by simpa using c1)] at h4
    exact h4
theorem refChance_f (a b : List Int) (k : Nat) (hk : 2000 ≤ k) : pianolaref10_Chance.f k a b = hand_Chance.f a b := by
 unfold pianolaref10_Chance.f hand_Chance.f
 rw [refBoth_f a b k (by omega), Option.bind_some]
 by_cases h : bothI a b = 0
 · have hl := both_len h
   have hU := U_small a b hl.1 hl.2
   have hm := mul_in (x := (a.length : Int)) (y := (b.length : Int)) (p := 16) (q := 16) ⟨by omega, by omega⟩ ⟨by omega, by omega⟩
   have hbt := beats_small a b hl.1 hl.2
   have hw : wrap64 ((a.length : Int) * (b.length : Int)) = (a.length : Int) * (b.length : Int) := w64' _ (by omega) (by omega)
   rw [if_pos h, if_pos h, rbeats_f a b k (by omega) (by omega) hk, Option.bind_some, hw]
   generalize hM : (a.length : Int) * (b.length : Int) = M at hm
   rw [rfar_f _ _ (by omega) (by omega), Option.bind_some, rchoices_f h, Option.bind_some]
   refine (rchance_l a b hl.1 hl.2 M (farI (beatsI a b) M) ⟨hm.1, by omega⟩ (cntB_pos a b _ rfl) _ k 0 rfl (Nat.zero_le _) (by omega)).trans ?_
   unfold chanceI
   rw [hM]
 · rw [if_neg h, if_neg h]

end Go.Proofs.Ythddeillkdediaa.H

/- Plain law: the reference's Paired is ours. -/
namespace Go.Proofs.Ythddeillkdediaa.H
open Go.RowKit Go.Proofs.YthddeillkdediaaW.PrintWords Go.Proofs.YthddeillkdediaaW.PrintLast Go.Proofs.YthddeillkdediaaW.PrintMore
open Go.Shelf Go.Proofs.Ythddeillkdediaa.QA
set_option linter.unusedVariables false
set_option linter.unusedSimpArgs false


/-- A row by a function. -/
def tabI (N : Nat) (V : Int → Int) : List Int := (List.range N).map fun e : Nat => V (e : Int)
theorem tabI_len (N : Nat) (V : Int → Int) : (tabI N V).length = N := by unfold tabI; simp
theorem rd_tabI (N : Nat) (V : Int → Int) {e : Nat} (h : e < N) : rd (tabI N V) (e : Int) = V (e : Int) := by
 unfold rd tabI
 rw [Int.toNat_natCast, List.getD_eq_getElem?_getD, List.getElem?_map, List.getElem?_range h]
 rfl
theorem tabI_congr (N : Nat) {V V' : Int → Int} (h : ∀ e : Nat, e < N → V (e : Int) = V' (e : Int)) : tabI N V = tabI N V' :=
 List.map_congr_left fun e he => h e (List.mem_range.1 he)
theorem tabI_get (N : Nat) (V : Int → Int) (i : Nat) (h : i < (tabI N V).length) : (tabI N V)[i] = V (i : Int) := by
 have e : (tabI N V)[i]? = some (V (i : Int)) := by
  have h2 : i < N := by rwa [tabI_len] at h
  unfold tabI
  rw [List.getElem?_map, List.getElem?_range h2]
  rfl
 rw [List.getElem?_eq_getElem h] at e
 exact Option.some.inj e
theorem tabI_set (N : Nat) (V : Int → Int) (e : Nat) (v : Int) : (tabI N V).set e v = tabI N (fun x => if x = (e : Int) then v else V x) := by
 refine List.ext_getElem (by rw [List.length_set, tabI_len, tabI_len]) fun i h1 h2 => ?_
 rw [List.getElem_set, tabI_get, tabI_get]
 by_cases h : e = i
 · rw [if_pos h, if_pos (by omega)]
 · rw [if_neg h, if_neg (by omega)]
theorem tabI_zero (N : Nat) : List.replicate N (0 : Int) = tabI N (fun _ => 0) := by
 refine List.ext_getElem (by rw [List.length_replicate, tabI_len]) fun i h1 h2 => ?_
 rw [tabI_get, List.getElem_replicate]
theorem ps_stepG (U : List Int) (q : Int → Bool) (F : Int → Int) (hF : ∀ x, 0 ≤ F x) (hB : sumI (U.map (keep q F)) ≤ 4294967296) {i : Nat} (h : i < U.length) (hq : q (rd U (i : Int)) = true) {X : Int} (hX : X = F (rd U (i : Int))) : wrap64 (psI U q F i + X) = psI U q F (i + 1) := by
 have h1 := psI_in U q F hF (i + 1)
 rw [psI_succ _ _ _ h] at h1
 unfold keep at h1
 rw [if_pos hq] at h1
 rw [hX, psI_succ _ _ _ h]
 unfold keep
 rw [if_pos hq]
 unfold keep at hB
 exact w64' _ (by omega) (by omega)
theorem ps_stayG (U : List Int) (q : Int → Bool) (F : Int → Int) {i : Nat} (h : i < U.length) (hq : ¬ q (rd U (i : Int)) = true) : psI U q F (i + 1) = psI U q F i := by
 rw [psI_succ _ _ _ h]
 unfold keep
 rw [if_neg hq, Int.add_zero]
theorem wS_in (rs : List Int) (e : Int) : 0 ≤ wS rs e ∧ wS rs e ≤ ((2 ^ rs.length : Nat) : Int) := by
 rw [wS_cnt]
 have := List.countP_le_length (p := fun s => decide (s = e)) (l := allS rs)
 rw [allS_len] at this
 omega
theorem allS_top : ∀ rs : List Int, (∀ r ∈ rs, 0 ≤ r) → ∀ s ∈ allS rs, -(sumI rs) ≤ s ∧ s ≤ sumI rs
 | [], _, s, hs => by
  obtain rfl := List.mem_singleton.1 hs
  simp [sumI]
 | r :: rs, h, s, hs => by
  obtain ⟨t, ht, hs⟩ := List.mem_flatMap.1 hs
  have ih := allS_top rs (fun x hx => h x (by simp [hx])) t ht
  have hr := h r (by simp)
  simp only [sumI]
  rcases List.mem_cons.1 hs with rfl | hs
  · omega
  · obtain rfl := List.mem_singleton.1 hs
    omega
theorem wS_supp (rs : List Int) (h : ∀ r ∈ rs, 0 ≤ r) (e : Int) (he : wS rs e ≠ 0) : -(sumI rs) ≤ e ∧ e ≤ sumI rs := by
 rw [wS_cnt] at he
 have h1 : 0 < (allS rs).countP (fun s => decide (s = e)) := by omega
 obtain ⟨s, hs, hq⟩ := List.countP_pos_iff.1 h1
 have : s = e := of_decide_eq_true hq
 rw [← this]
 exact allS_top rs h s hs
theorem sum_take_le (rs : List Int) (h : ∀ r ∈ rs, 0 ≤ r) (i : Nat) : 0 ≤ sumI (rs.take i) ∧ sumI (rs.take i) ≤ sumI rs := by
 have e : sumI rs = sumI (rs.take i) + sumI (rs.drop i) := by rw [← sumI_append, List.take_append_drop]
 have pos : ∀ l : List Int, (∀ r ∈ l, 0 ≤ r) → 0 ≤ sumI l := fun l hl => by
  induction l with
  | nil => simp [sumI]
  | cons x l ih =>
   have h1 := hl x (by simp)
   have h2 := ih (fun r hr => hl r (by simp [hr]))
   simp only [sumI]
   omega
 have h1 := pos (rs.take i) (fun r hr => h r (List.mem_of_mem_take hr))
 have h2 := pos (rs.drop i) (fun r hr => h r (List.mem_of_mem_drop hr))
 omega
/-- The numbers from -top on. -/
def midU (top : Nat) : List Int := tabI (2 * top + 1) (fun s => s - (top : Int))
theorem midU_nodup (top : Nat) : (midU top).Nodup := List.Pairwise.map _ (fun x y h e => h (by simp only at e; omega)) List.nodup_range
theorem mem_midU (top : Nat) (x : Int) (h1 : -(top : Int) ≤ x) (h2 : x ≤ top) : x ∈ midU top := by
 unfold midU tabI
 exact List.mem_map.2 ⟨(x + top).toNat, List.mem_range.2 (by omega), by show ((x + top).toNat : Int) - (top : Int) = x; omega⟩
theorem midU_len (top : Nat) : (midU top).length = 2 * top + 1 := tabI_len _ _
theorem rd_midU (top : Nat) {i : Nat} (h : i < 2 * top + 1) : rd (midU top) (i : Int) = (i : Int) - top := rd_tabI _ _ h
theorem farI_move (s top : Int) : farI s top = farI (s - top) 0 := by
 unfold farI
 congr 1 <;> omega
theorem rp_l4 (rs : List Int) (sum : Int) (top : Nat) (hs : -100000 ≤ sum ∧ sum ≤ 100000) (ht : top ≤ 100000) (hl : rs.length ≤ 16) (hr : ∀ r ∈ rs, 0 ≤ r) (htop : sumI rs = (top : Int)) : ∀ (m k i : Nat), 2 * top + 1 - i = m → i ≤ 2 * top + 1 → m + 201 ≤ k →
  pianolaref10_Paired.l4 k sum (top : Int) (tabI (2 * top + 1) (fun s => wS rs (s - top))) (psI (midU top) (fun x => decide (farI sum 0 ≤ farI x 0)) (wS rs) i) (psI (midU top) (fun _ => true) (wS rs) i) (i : Int)
   = some (sum, (lowI ((allS rs).countP fun x => decide (farI sum 0 ≤ farI x 0)) (2 ^ rs.length)).1, (lowI ((allS rs).countP fun x => decide (farI sum 0 ≤ farI x 0)) (2 ^ rs.length)).2, 0) := by
 have hU : ∀ s ∈ allS rs, s ∈ midU top := fun s h => by
  have := allS_top rs hr s h
  exact mem_midU top s (by omega) (by omega)
 have h2 : 2 ^ rs.length ≤ 2 ^ 16 := Nat.pow_le_pow_right (by omega) hl
 have h3 : (2 : Nat) ^ 16 = 65536 := by decide
 have hsum : ∀ q : Int → Bool, sumI ((midU top).map (keep q (wS rs))) = (((allS rs).countP q : Nat) : Int) := fun q => wS_sum rs (midU top) (midU_nodup top) hU q
 have hcl : ∀ q : Int → Bool, (allS rs).countP q ≤ 65536 := fun q => by
  have := List.countP_le_length (p := q) (l := allS rs)
  rw [allS_len] at this
  omega
 have hall : (allS rs).countP (fun _ => true) = 2 ^ rs.length := by rw [List.countP_true, allS_len]
 have hpos : ∀ x, 0 ≤ wS rs x := fun x => (wS_in rs x).1
 have hB : ∀ q : Int → Bool, sumI ((midU top).map (keep q (wS rs))) ≤ 4294967296 := fun q => by rw [hsum]; have := hcl q; omega
 intro m
 induction m with
 | zero =>
  intro k i h1 h2' h3'
  obtain rfl : i = 2 * top + 1 := by omega
  obtain ⟨k, rfl⟩ : ∃ k', k = k' + 1 := ⟨k - 1, by omega⟩
  unfold pianolaref10_Paired.l4
  rw [if_neg (by rw [w64' _ (by omega) (by omega)]; omega)]
  have e1 := psI_all (midU top) (fun x => decide (farI sum 0 ≤ farI x 0)) (wS rs)
  have e2 := psI_all (midU top) (fun _ => true) (wS rs)
  rw [midU_len, hsum] at e1 e2
  rw [e1, e2, hall, rleast_f _ _ k (Nat.pow_pos (by omega)) (by have := hcl (fun x => decide (farI sum 0 ≤ farI x 0)); omega) (by omega) (by omega)]
  rfl
 | succ m ih =>
  intro k i h1 h2' h3'
  have hlt : i < 2 * top + 1 := by omega
  have hlt' : i < (midU top).length := by rw [midU_len]; exact hlt
  obtain ⟨k, rfl⟩ : ∃ k', k = k' + 1 := ⟨k - 1, by omega⟩
  have h4 := ih k (i + 1) (by omega) hlt (by omega)
  have hX : rd (tabI (2 * top + 1) (fun s => wS rs (s - top))) (i : Int) = wS rs (rd (midU top) (i : Int)) := by rw [rd_tabI _ _ hlt, rd_midU top hlt]
  unfold pianolaref10_Paired.l4
  rw [if_pos (by rw [w64' _ (by omega) (by omega)]; omega), if_pos (by omega), if_pos (by rw [tabI_len]; omega), rfar_f _ _ (by omega) (by omega), Option.bind_some, rfar_f _ _ (by omega) (by omega), Option.bind_some, wrap_up i (by omega), ps_stepG (midU top) (fun _ => true) (wS rs) hpos (hB _) hlt' rfl hX]
  by_cases c1 : farI sum 0 ≤ farI (i : Int) (top : Int)
  · rw [if_pos c1, ps_stepG (midU top) (fun x => decide (farI sum 0 ≤ farI x 0)) (wS rs) hpos (hB _) hlt' (by rw [rd_midU top hlt, ← farI_move]; exact decide_eq_true c1) hX]
    exact h4
  · rw [if_neg c1]
    rw [ps_stayG (midU top) (fun x => decide (farI sum 0 ≤ farI x 0)) (wS rs) hlt' (by rw [rd_midU top hlt, ← farI_move]; simpa using c1)] at h4
    exact h4
/-- What a round has put so far. -/
def PN (W : Int → Int) (r s : Int) (e : Int) : Int := (if e - r < s then W (e - r) else 0) + (if e + r < s then W (e + r) else 0)
theorem PN_step (W : Int → Int) (r s : Int) (hr : 0 < r) (e : Int) : PN W r (s + 1) e = if e = s - r then PN W r s e + W s else if e = s + r then PN W r s e + W s else PN W r s e := by
 unfold PN
 by_cases h1 : e = s - r
 · subst h1
   rw [if_pos rfl, if_pos (by omega), if_pos (by omega), if_pos (by omega), if_neg (by omega), show s - r + r = s by omega, Int.add_zero]
 · rw [if_neg h1]
   by_cases h2 : e = s + r
   · subst h2
     rw [if_pos rfl, if_pos (by omega), if_neg (by omega), if_neg (by omega), if_neg (by omega), show s + r - r = s by omega, Int.add_zero, Int.add_zero, Int.zero_add]
   · rw [if_neg h2]
     have e1 : (e - r < s + 1) ↔ (e - r < s) := by omega
     have e2 : (e + r < s + 1) ↔ (e + r < s) := by omega
     simp only [e1, e2]
theorem PN_in (W : Int → Int) (hW : ∀ x, 0 ≤ W x ∧ W x ≤ 65536) (r s e : Int) : 0 ≤ PN W r s e ∧ PN W r s e ≤ 131072 := by
 have h1 := hW (e - r)
 have h2 := hW (e + r)
 unfold PN
 split <;> split <;> omega
theorem rp_l3 (rs : List Int) (sum : Int) (top : Nat) (ht : top ≤ 100000) (i : Nat) (hi : i < rs.length) (hi2 : rs.length ≤ 16) (r : Int) (hrd : rd rs (i : Int) = r) (hr : 0 < r ∧ r ≤ 1000) (W : Int → Int) (hW : ∀ x, 0 ≤ W x ∧ W x ≤ 65536) (hS : ∀ x, W x ≠ 0 → r ≤ x ∧ x + r ≤ 2 * (top : Int)) :
  ∀ (m k s : Nat), 2 * top + 1 - s = m → s ≤ 2 * top + 1 → pianolaref10_Paired.l3 (k + (m + 1)) rs sum (top : Int) (tabI (2 * top + 1) W) (i : Int) (tabI (2 * top + 1) (PN W r (s : Int))) (s : Int) = pianolaref10_Paired.l2 k rs sum (top : Int) (tabI (2 * top + 1) (PN W r ((2 * top + 1 : Nat) : Int))) ((i + 1 : Nat) : Int) := by
 intro m
 induction m with
 | zero =>
  intro k s h1 h2
  obtain rfl : s = 2 * top + 1 := by omega
  rw [show k + (0 + 1) = k + 1 by omega]
  unfold pianolaref10_Paired.l3
  rw [if_neg (by rw [w64' _ (by omega) (by omega)]; omega), wrap_up i (by omega)]
 | succ m ih =>
  intro k s h1 h2
  have hlt : s < 2 * top + 1 := by omega
  have h4 := ih k (s + 1) (by omega) hlt
  rw [show k + (m + 1 + 1) = k + (m + 1) + 1 by omega]
  unfold pianolaref10_Paired.l3
  rw [if_pos (by rw [w64' _ (by omega) (by omega)]; omega), if_pos (by omega), if_pos (by rw [tabI_len]; omega), rd_tabI _ W hlt, wrap_up s (by omega)]
  have hw := hW (s : Int)
  by_cases c : W (s : Int) > 0
  · have hs := hS (s : Int) (by omega)
    obtain ⟨p, hp⟩ : ∃ p : Nat, (s : Int) + r = (p : Int) := ⟨((s : Int) + r).toNat, by omega⟩
    obtain ⟨q, hq⟩ : ∃ q : Nat, (s : Int) - r = (q : Int) := ⟨((s : Int) - r).toNat, by omega⟩
    have hpn : p < 2 * top + 1 := by omega
    have hqn : q < 2 * top + 1 := by omega
    have b1 := PN_in W hW r s p
    have b2 := PN_in W hW r s q
    rw [if_pos c, if_pos (by omega), if_pos (by omega), hrd, w64' ((s : Int) + r) (by omega) (by omega), w64' ((s : Int) - r) (by omega) (by omega), hp, hq, if_pos (by omega), if_pos (by rw [tabI_len]; omega), Option.bind_some, if_pos (by omega)]
    simp only [Int.toNat_natCast]
    rw [rd_tabI _ _ hpn, w64' (PN W r s p + W s) (by omega) (by omega), tabI_set, if_pos (by rw [tabI_len]; omega), rd_tabI _ _ hqn, if_neg (show ¬ (q : Int) = (p : Int) by omega), w64' (PN W r s q + W s) (by omega) (by omega), tabI_set]
    have e : tabI (2 * top + 1) (fun x => if x = (q : Int) then PN W r s q + W s else if x = (p : Int) then PN W r s p + W s else PN W r s x) = tabI (2 * top + 1) (PN W r ((s + 1 : Nat) : Int)) := by
     refine tabI_congr _ fun x hx => ?_
     have := PN_step W r s hr.1 x
     rw [hp, hq] at this
     rw [show ((s + 1 : Nat) : Int) = (s : Int) + 1 by omega, this]
     by_cases e1 : (x : Int) = (q : Int)
     · rw [if_pos e1, if_pos e1, e1]
     · rw [if_neg e1, if_neg e1]
       by_cases e2 : (x : Int) = (p : Int)
       · rw [if_pos e2, if_pos e2, e2]
       · rw [if_neg e2, if_neg e2]
    rw [e]
    exact h4
  · rw [if_neg c]
    have hw0 : W (s : Int) = 0 := by omega
    have e : tabI (2 * top + 1) (PN W r ((s + 1 : Nat) : Int)) = tabI (2 * top + 1) (PN W r (s : Int)) := by
     refine tabI_congr _ fun x hx => ?_
     rw [show ((s + 1 : Nat) : Int) = (s : Int) + 1 by omega, PN_step W r s hr.1 x, hw0]
     split
     · exact Int.add_zero _
     · split
       · exact Int.add_zero _
       · rfl
    rw [e] at h4
    exact h4
theorem rp_l2 (rs : List Int) (sum : Int) (top : Nat) (hs : -100000 ≤ sum ∧ sum ≤ 100000) (ht : top ≤ 100000) (hl : rs.length ≤ 16) (hr : ∀ r ∈ rs, 1 ≤ r ∧ r ≤ 1000) (htop : sumI rs = (top : Int)) : ∀ (m k i : Nat), rs.length - i = m → i ≤ rs.length → m * (2 * top + 3) + (2 * top + 203) ≤ k →
  pianolaref10_Paired.l2 k rs sum (top : Int) (tabI (2 * top + 1) (fun s => wS (rs.take i) (s - top))) (i : Int)
   = some (sum, (lowI ((allS rs).countP fun x => decide (farI sum 0 ≤ farI x 0)) (2 ^ rs.length)).1, (lowI ((allS rs).countP fun x => decide (farI sum 0 ≤ farI x 0)) (2 ^ rs.length)).2, 0) := by
 have hr0 : ∀ r ∈ rs, 0 ≤ r := fun r h => by have := hr r h; omega
 have e3 : (2 : Nat) ^ 16 = 65536 := by decide
 intro m
 induction m with
 | zero =>
  intro k i h1 h2 h3
  obtain rfl : i = rs.length := by omega
  obtain ⟨k, rfl⟩ : ∃ k', k = k' + 1 := ⟨k - 1, by omega⟩
  unfold pianolaref10_Paired.l2
  rw [if_neg (by omega), List.take_length]
  exact rp_l4 rs sum top hs ht hl hr0 htop _ k 0 rfl (Nat.zero_le _) (by omega)
 | succ m ih =>
  intro k i h1 h2 h3
  have hlt : i < rs.length := by omega
  rw [Nat.succ_mul] at h3
  obtain ⟨k, rfl⟩ : ∃ k', k = (k' + (2 * top + 1 + 1)) + 1 := ⟨k - (2 * top + 3), by omega⟩
  have h4 := ih k (i + 1) (by omega) hlt (by omega)
  have hN : wrap64 (wrap64 (2 * (top : Int)) + 1) = ((2 * top + 1 : Nat) : Int) := by rw [w64' (2 * (top : Int)) (by omega) (by omega), w64' _ (by omega) (by omega)]; omega
  unfold pianolaref10_Paired.l2
  rw [if_pos (by omega), hN, if_pos (by omega), if_pos (by rw [Int.toNat_natCast]; omega), Int.toNat_natCast, tabI_zero]
  have hrr := hr _ (rd_mem rs hlt)
  obtain ⟨r, hrd⟩ : ∃ r, r = rd rs (i : Int) := ⟨_, rfl⟩
  rw [← hrd] at hrr
  have ht1 := sum_take_le rs hr0 (i + 1)
  rw [take_rd rs hlt, sumI_append, ← hrd] at ht1
  have hsu : sumI [r] = r := by simp [sumI]
  rw [hsu] at ht1
  have ht0 := (sum_take_le rs hr0 i).1
  have hS : ∀ x, wS (rs.take i) (x - top) ≠ 0 → r ≤ x ∧ x + r ≤ 2 * (top : Int) := fun x hx => by
   have := wS_supp (rs.take i) (fun r h => hr0 r (List.mem_of_mem_take h)) _ hx
   omega
  have hW : ∀ x : Int, 0 ≤ wS (rs.take i) (x - top) ∧ wS (rs.take i) (x - top) ≤ 65536 := fun x => by
   have h5 := wS_in (rs.take i) (x - top)
   have h6 : 2 ^ (rs.take i).length ≤ 2 ^ 16 := Nat.pow_le_pow_right (by omega) (by rw [List.length_take]; omega)
   omega
  have e1 : tabI (2 * top + 1) (fun _ => 0) = tabI (2 * top + 1) (PN (fun s => wS (rs.take i) (s - top)) r ((0 : Nat) : Int)) := tabI_congr _ fun x hx => by
   unfold PN
   rw [if_neg (show ¬ (x : Int) + r < ((0 : Nat) : Int) by omega)]
   by_cases c : (x : Int) - r < ((0 : Nat) : Int)
   · rw [if_pos c]
     by_cases z : wS (rs.take i) ((x : Int) - r - top) = 0
     · simp only [z]; rfl
     · have := hS ((x : Int) - r) z
       omega
   · rw [if_neg c]; rfl
  have e2 : tabI (2 * top + 1) (PN (fun s => wS (rs.take i) (s - top)) r ((2 * top + 1 : Nat) : Int)) = tabI (2 * top + 1) (fun s => wS (rs.take (i + 1)) (s - top)) := tabI_congr _ fun x hx => by
   rw [take_rd rs hlt, wS_snoc, ← hrd]
   unfold PN stepS
   simp only
   rw [if_pos (by omega), show (x : Int) - r - top = (x : Int) - top - r by omega, show (x : Int) + r - top = (x : Int) - top + r by omega]
   by_cases c : (x : Int) + r < ((2 * top + 1 : Nat) : Int)
   · rw [if_pos c]
   · rw [if_neg c]
     by_cases z : wS (rs.take i) ((x : Int) - top + r) = 0
     · rw [z]
     · have := hS ((x : Int) + r) (by rw [show (x : Int) + r - top = (x : Int) - top + r by omega]; exact z)
       omega
  rw [e1]
  have h7 := rp_l3 rs sum top ht i hlt hl r hrd.symm ⟨by omega, hrr.2⟩ (fun s => wS (rs.take i) (s - top)) hW hS (2 * top + 1) k 0 (by omega) (Nat.zero_le _)
  rw [e2] at h7
  exact h7.trans h4
theorem rp_l1 (rs ss : List Int) (hl : rs.length ≤ 16) (hss : ss.length = rs.length) (hr : ∀ r ∈ rs, 1 ≤ r ∧ r ≤ 1000) (hsg : ∀ s ∈ ss, s = 1 ∨ s = -1) (top : Nat) (htop : sumI rs = (top : Int)) (ht : top ≤ 100000) : ∀ (m k i : Nat), rs.length - i = m → i ≤ rs.length → m + 600000 ≤ k → top ≤ 16000 →
  pianolaref10_Paired.l1 k ss rs (dotI (ss.take i) (rs.take i)) (sumI (rs.take i)) (i : Int)
   = some (dotI ss rs, (lowI ((allS rs).countP fun x => decide (farI (dotI ss rs) 0 ≤ farI x 0)) (2 ^ rs.length)).1, (lowI ((allS rs).countP fun x => decide (farI (dotI ss rs) 0 ≤ farI x 0)) (2 ^ rs.length)).2, 0) := by
 have hr0 : ∀ r ∈ rs, 0 ≤ r := fun r h => by have := hr r h; omega
 have hdot : ∀ i, -100000 ≤ dotI (ss.take i) (rs.take i) ∧ dotI (ss.take i) (rs.take i) ≤ 100000 := fun i => by
  have := dotI_in 1000 (ss.take i) (rs.take i) (fun s h => hsg s (List.mem_of_mem_take h)) (fun r h => ⟨hr0 r (List.mem_of_mem_take h), (hr r (List.mem_of_mem_take h)).2⟩) (by omega)
  rw [List.length_take] at this
  omega
 intro m
 induction m with
 | zero =>
  intro k i h1 h2 h3 h4
  obtain rfl : i = rs.length := by omega
  obtain ⟨k, rfl⟩ : ∃ k', k = k' + 1 := ⟨k - 1, by omega⟩
  have hd := hdot rs.length
  rw [List.take_length, ← hss, List.take_length] at hd
  have hN : wrap64 (wrap64 (2 * (top : Int)) + 1) = ((2 * top + 1 : Nat) : Int) := by rw [w64' (2 * (top : Int)) (by omega) (by omega), w64' _ (by omega) (by omega)]; omega
  unfold pianolaref10_Paired.l1
  rw [if_neg (by omega), List.take_length, ← hss, List.take_length, hss, htop, hN, if_pos (by omega), if_pos (by rw [Int.toNat_natCast]; omega), Option.bind_some, Int.toNat_natCast, if_pos (by omega), if_pos (by rw [List.length_replicate]; omega), Int.toNat_natCast, tabI_zero, tabI_set]
  have e : tabI (2 * top + 1) (fun x => if x = (top : Int) then 1 else 0) = tabI (2 * top + 1) (fun s => wS (rs.take 0) (s - top)) := tabI_congr _ fun x hx => by
   rw [List.take_zero]
   show _ = startS _
   unfold startS
   by_cases c : (x : Int) = (top : Int)
   · rw [if_pos c, if_pos (by omega)]
   · rw [if_neg c, if_neg (by omega)]
  rw [e]
  have hF : rs.length * (2 * top + 3) ≤ 16 * 32003 := Nat.mul_le_mul hl (by omega)
  exact rp_l2 rs (dotI ss rs) top hd ht hl hr htop rs.length k 0 rfl (Nat.zero_le _) (by omega)
 | succ m ih =>
  intro k i h1 h2 h3 h4
  have hlt : i < rs.length := by omega
  obtain ⟨k, rfl⟩ : ∃ k', k = k' + 1 := ⟨k - 1, by omega⟩
  have h5 := ih k (i + 1) (by omega) hlt (by omega) h4
  have hd := hdot (i + 1)
  rw [dotI_take ss rs i (by omega) hlt] at h5 hd
  rw [take_rd rs hlt, sumI_append, show sumI [rd rs (i : Int)] = rd rs (i : Int) by simp [sumI]] at h5
  have hrr := hr _ (rd_mem rs hlt)
  have hst := sum_take_le rs hr0 i
  have hm : -1000 ≤ rd ss (i : Int) * rd rs (i : Int) ∧ rd ss (i : Int) * rd rs (i : Int) ≤ 1000 := by
   rcases hsg _ (rd_mem ss (show i < ss.length by omega)) with e | e <;> rw [e] <;> omega
  unfold pianolaref10_Paired.l1
  rw [if_pos (by omega), if_pos (by omega), if_pos (by omega), wrap_up i (by omega), w64' (rd ss (i : Int) * rd rs (i : Int)) (by omega) (by omega), w64' (sumI (rs.take i) + rd rs (i : Int)) (by omega) (by omega), w64' _ (by omega) (by omega)]
  exact h5
theorem rp_l0 (a b : List Int) (hl : a.length = b.length) (h16 : a.length ≤ 16) (ga : ∀ x ∈ a, -100000 ≤ x ∧ x ≤ 100000) (gb : ∀ x ∈ b, -100000 ≤ x ∧ x ≤ 100000) : ∀ (m k i : Nat), a.length - i = m → i ≤ a.length → m + 700000 ≤ k →
  pianolaref10_Paired.l0 k a b (dfI ((pairsL a b).take i)) (sgI ((pairsL a b).take i)) (i : Int) = some (psum a b, (pchance a b).1, (pchance a b).2, 0) := by
 have hzl : (pairsL a b).length = a.length := by unfold pairsL; rw [List.length_zip]; omega
 intro m
 induction m with
 | zero =>
  intro k i h1 h2 h3
  obtain rfl : i = a.length := by omega
  obtain ⟨k, rfl⟩ : ∃ k', k = k' + 1 := ⟨k - 1, by omega⟩
  unfold pianolaref10_Paired.l0
  rw [if_neg (by omega), ← hzl, List.take_length]
  have hd := dfI_len (pairsL a b)
  rw [hzl] at hd
  rw [rranks_f _ k (by omega) (by omega), Option.bind_some]
  obtain ⟨rs, hrs⟩ : ∃ rs, rs = ranksI (dfI (pairsL a b)) := ⟨_, rfl⟩
  have hrl : rs.length = (dfI (pairsL a b)).length := by rw [hrs]; unfold ranksI; rw [List.length_map]
  have hr : ∀ r ∈ rs, 1 ≤ r ∧ r ≤ 1000 := fun r h => by
   rw [hrs] at h
   obtain ⟨x, _, rfl⟩ := List.mem_map.1 h
   have := rankI_in (dfI (pairsL a b)) x
   omega
  have hsum := sumI_in rs 1 1000 hr
  have h8 := rp_l1 rs (sgI (pairsL a b)) (by omega) (by omega) hr (sgI_in _) (sumI rs).toNat (by omega) (by omega) rs.length k 0 rfl (Nat.zero_le _) (by omega) (by omega)
  unfold psum pchance
  rw [← hrs, ← hrl]
  unfold psum
  rw [← hrs]
  exact h8
 | succ m ih =>
  intro k i h1 h2 h3
  have hlt : i < a.length := by omega
  obtain ⟨k, rfl⟩ : ∃ k', k = k' + 1 := ⟨k - 1, by omega⟩
  have h5 := ih k (i + 1) (by omega) hlt (by omega)
  have hz := zip_take a b hlt (by omega)
  have hd := dfI_len ((pairsL a b).take i)
  rw [List.length_take, hzl] at hd
  unfold pairsL at h5 hd ⊢
  rw [hz, dfI_snoc, sgI_snoc] at h5
  have x1 := rd_in a hlt ga
  have x2 := rd_in b (show i < b.length by omega) gb
  unfold pianolaref10_Paired.l0
  rw [if_pos (by omega), if_pos (by omega), if_pos (by omega), wrap_up i (by omega)]
  by_cases c : rd a (i : Int) = rd b (i : Int)
  · rw [if_pos c]
    rw [if_pos c, if_pos c, List.append_nil, List.append_nil] at h5
    exact h5
  · rw [if_neg c, rfar_f _ _ (by omega) (by omega), Option.bind_some, if_pos (by omega), Option.bind_some]
    rw [if_neg c, if_neg c] at h5
    by_cases g : rd a (i : Int) > rd b (i : Int)
    · rw [if_pos g, if_pos (by omega)]
      rw [if_neg (by omega)] at h5
      exact h5
    · rw [if_neg g, if_pos (by omega)]
      rw [if_pos (by omega)] at h5
      exact h5
theorem refPaired_f (a b : List Int) (k : Nat) (hk : 1000000 ≤ k) : pianolaref10_Paired.f k a b = hand_Paired.f a b := by
 unfold pianolaref10_Paired.f hand_Paired.f
 rw [refBoth_f a b k (by omega), Option.bind_some]
 obtain ⟨k, rfl⟩ : ∃ k', k = k' + 1 + 1 := ⟨k - 2, by omega⟩
 by_cases h : bothI a b = 0
 · have hl := both_len h
   rw [if_pos h, if_pos h, h]
   rw [pianolaref10_Paired.j0]
   by_cases e : a.length = b.length
   · rw [if_pos e, if_neg (by simp [e])]
     rw [pianolaref10_Paired.j1]
     rw [if_pos rfl]
     exact rp_l0 a b e hl.1 (chk_good (both_ok h).1) (chk_good (both_ok h).2) a.length k 0 rfl (Nat.zero_le _) (by omega)
   · rw [if_neg e, if_pos (by simp; omega)]
     rw [pianolaref10_Paired.j1]
     rw [if_neg (by omega)]
 · rw [if_neg h, if_neg h]
   rw [pianolaref10_Paired.j0]
   rw [if_neg (by simp)]
   rw [pianolaref10_Paired.j1]
   rw [if_neg h]

end Go.Proofs.Ythddeillkdediaa.H
