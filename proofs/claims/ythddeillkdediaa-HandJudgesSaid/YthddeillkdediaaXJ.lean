/- Texts PT, PV of this chapter, one behind the other. -/
import Derived.Test.YthddeillkdediaaQA3
import Derived.Test.YthddeillkdediaaQA5
import Derived.Test.YthddeillkdediaaQA6
import Derived.Test.YthddeillkdediaaXI

/- Plain law: the reference's Tails and Chance are ours. -/
namespace Go.Proofs.Ythddeillkdediaa.H
open Go.RowKit Go.Proofs.YthddeillkdediaaW.PrintWords Go.Proofs.YthddeillkdediaaW.PrintLast Go.Proofs.YthddeillkdediaaW.PrintMore
open Go.Shelf Go.Proofs.Ythddeillkdediaa.QA
set_option linter.unusedVariables false
set_option linter.unusedSimpArgs false


theorem rd_map (U : List Int) (F : Int → Int) {i : Nat} (h : i < U.length) : rd (U.map F) (i : Int) = F (rd U (i : Int)) := by
 unfold rd
 rw [Int.toNat_natCast, List.getD_eq_getElem?_getD, List.getD_eq_getElem?_getD, List.getElem?_map, List.getElem?_eq_getElem h]
 rfl
theorem beatsU_len (a b : List Int) : (beatsU a b).length = 2 * a.length * b.length + 1 := by unfold beatsU; simp
theorem rd_beatsU (a b : List Int) {i : Nat} (h : i < (beatsU a b).length) : rd (beatsU a b) (i : Int) = (i : Int) := by
 rw [beatsU_len] at h
 unfold rd beatsU
 rw [Int.toNat_natCast, List.getD_eq_getElem?_getD, List.getElem?_map, List.getElem?_range h]
 rfl
/-- Sums over the first few. -/
def psI (U : List Int) (q : Int → Bool) (F : Int → Int) (i : Nat) : Int := sumI ((U.take i).map (keep q F))
theorem psI_succ (U : List Int) (q : Int → Bool) (F : Int → Int) {i : Nat} (h : i < U.length) : psI U q F (i + 1) = psI U q F i + keep q F (rd U (i : Int)) := by
 unfold psI
 rw [take_rd U h, sum_snoc]
theorem psI_all (U : List Int) (q : Int → Bool) (F : Int → Int) : psI U q F U.length = sumI (U.map (keep q F)) := by
 unfold psI
 rw [List.take_length]
theorem psI_in (U : List Int) (q : Int → Bool) (F : Int → Int) (hF : ∀ x, 0 ≤ F x) (i : Nat) : 0 ≤ psI U q F i ∧ psI U q F i ≤ sumI (U.map (keep q F)) := by
 have h1 := (keep_le (U := U.take i) q hF).1
 have h2 := (keep_le (U := U.drop i) q hF).1
 have h3 : sumI (U.map (keep q F)) = sumI ((U.take i).map (keep q F)) + sumI ((U.drop i).map (keep q F)) := by
  rw [← sumI_append, ← List.map_append, List.take_append_drop]
 unfold psI
 omega
theorem ps_cnt (a b : List Int) (ha : a.length ≤ 16) (hb : b.length ≤ 16) (q : Int → Bool) (i : Nat) : 0 ≤ psI (beatsU a b) q (chF a b) i ∧ psI (beatsU a b) q (chF a b) i ≤ 4294967296 := by
 have h := psI_in (beatsU a b) q (chF a b) (chF_pos a b) i
 rw [chF_sum] at h
 have := cnt_small a b q ha hb
 omega
theorem ps_step (a b : List Int) (ha : a.length ≤ 16) (hb : b.length ≤ 16) (q : Int → Bool) {i : Nat} (h : i < (beatsU a b).length) (hq : q (i : Int) = true) :
  wrap64 (psI (beatsU a b) q (chF a b) i + rd ((beatsU a b).map (chF a b)) (i : Int)) = psI (beatsU a b) q (chF a b) (i + 1) := by
 have h1 := ps_cnt a b ha hb q (i + 1)
 rw [psI_succ _ _ _ h, rd_beatsU a b h] at h1
 unfold keep at h1
 rw [if_pos hq] at h1
 rw [rd_map _ _ h, rd_beatsU a b h, w64' _ (by omega) (by omega), psI_succ _ _ _ h, rd_beatsU a b h]
 unfold keep
 rw [if_pos hq]
theorem ps_stay (a b : List Int) (q : Int → Bool) {i : Nat} (h : i < (beatsU a b).length) (hq : ¬ q (i : Int) = true) :
  psI (beatsU a b) q (chF a b) (i + 1) = psI (beatsU a b) q (chF a b) i := by
 rw [psI_succ _ _ _ h, rd_beatsU a b h]
 unfold keep
 rw [if_neg hq, Int.add_zero]
theorem U_small (a b : List Int) (ha : a.length ≤ 16) (hb : b.length ≤ 16) : (beatsU a b).length ≤ 513 := by
 rw [beatsU_len]
 have : 2 * a.length * b.length ≤ 32 * 16 := Nat.mul_le_mul (by omega) hb
 omega
theorem rchoices_f {a b : List Int} (h : bothI a b = 0) : pianolaref10_choices.f a b = some ((beatsU a b).map (chF a b)) := by
 have h1 := chk_len (both_ok h).1
 have h2 := chk_len (both_ok h).2
 unfold pianolaref10_choices.f
 rw [if_pos ⟨by omega, by omega⟩]
theorem rfar_f (x y : Int) (hx : -1000000000 ≤ x ∧ x ≤ 1000000000) (hy : -1000000000 ≤ y ∧ y ≤ 1000000000) : pianolaref10_far.f x y = some (farI x y) := by
 unfold pianolaref10_far.f farI
 rw [w64' (x - y) (by omega) (by omega), w64' (y - x) (by omega) (by omega)]
theorem least_l (s t : Nat) (ht : 0 < t) (hs : s ≤ 4611686018427387904) (ht2 : t ≤ 4611686018427387904) : ∀ (n x y k : Nat), y < 2 ^ n → 2 * n + 1 ≤ k → Nat.gcd x y = Nat.gcd s t → 0 < x →
  pianolaref10_Least.l0 k (s : Int) (t : Int) (x : Int) (y : Int) = some (lowI s t) := by
 have hend : ∀ (x k : Nat), Nat.gcd x 0 = Nat.gcd s t → 0 < x → pianolaref10_Least.l0 (k + 1) (s : Int) (t : Int) (x : Int) ((0 : Nat) : Int) = some (lowI s t) := fun x k hg hx => by
  unfold pianolaref10_Least.l0
  rw [if_neg (by omega), if_neg (by omega)]
  rw [Nat.gcd_zero_right] at hg
  have e1 : Int.tdiv (s : Int) (x : Int) = ((s / x : Nat) : Int) := rfl
  have e2 : Int.tdiv (t : Int) (x : Int) = ((t / x : Nat) : Int) := rfl
  have b1 := Nat.div_le_self s x
  have b2 := Nat.div_le_self t x
  rw [e1, e2]
  unfold lowI
  rw [← hg]
  generalize s / x = p1 at b1 ⊢
  generalize t / x = p2 at b2 ⊢
  rw [w64' _ (by omega) (by omega), w64' _ (by omega) (by omega)]
 have hstep : ∀ (x y k : Nat), 0 < y → pianolaref10_Least.l0 (k + 1) (s : Int) (t : Int) (x : Int) (y : Int) = pianolaref10_Least.l0 k (s : Int) (t : Int) (y : Int) ((x % y : Nat) : Int) := fun x y k hy => by
  rw [pianolaref10_Least.l0, if_pos (by omega), if_neg (by omega)]
  rfl
 have hgcd : ∀ x y : Nat, Nat.gcd y (x % y) = Nat.gcd x y := fun x y => by rw [Nat.gcd_comm x y, Nat.gcd_rec y x, Nat.gcd_comm]
 intro n
 induction n with
 | zero =>
  intro x y k hy hk hg hx
  obtain rfl : y = 0 := by simpa using hy
  obtain ⟨k, rfl⟩ : ∃ k', k = k' + 1 := ⟨k - 1, by omega⟩
  exact hend x k hg hx
 | succ n ih =>
  intro x y k hy hk hg hx
  obtain ⟨k, rfl⟩ : ∃ k', k = k' + 1 + 1 := ⟨k - 2, by omega⟩
  by_cases h0 : y = 0
  · subst h0
    exact hend x (k + 1) hg hx
  · have hy0 : 0 < y := by omega
    rw [hstep x y (k + 1) hy0]
    have hr := Nat.mod_lt x hy0
    by_cases h1 : x % y = 0
    · rw [h1]
      exact hend y k (by rw [← h1, hgcd, hg]) hy0
    · have hr0 : 0 < x % y := by omega
      rw [hstep y (x % y) k hr0]
      refine ih (x % y) (y % (x % y)) k ?_ (by omega) (by rw [hgcd, hgcd, hg]) hr0
      have h2 := Nat.mod_lt y hr0
      have h3 : y % (x % y) + (x % y) ≤ y := by
       have h4 := Nat.mod_add_div y (x % y)
       have h5 : 0 < y / (x % y) := Nat.div_pos (Nat.le_of_lt hr) hr0
       have h6 : (x % y) * 1 ≤ (x % y) * (y / (x % y)) := Nat.mul_le_mul_left _ h5
       omega
      rw [Nat.pow_succ] at hy
      omega
theorem rleast_f (s t k : Nat) (ht : 0 < t) (hs : s ≤ 4294967296) (ht2 : t ≤ 4294967296) (hk : 200 ≤ k) : pianolaref10_Least.f k (s : Int) (t : Int) = some (lowI s t) := by
 unfold pianolaref10_Least.f
 by_cases h0 : s = 0
 · subst h0
   obtain ⟨k, rfl⟩ : ∃ k', k = k' + 1 := ⟨k - 1, by omega⟩
   rw [pianolaref10_Least.l0, if_pos (by omega), if_neg (by omega)]
   have e : Int.tmod ((0 : Nat) : Int) (t : Int) = ((0 % t : Nat) : Int) := rfl
   rw [e, Nat.zero_mod]
   exact least_l 0 t ht (by omega) (by omega) 0 t 0 k (by omega) (by omega) (by rw [Nat.gcd_zero_right, Nat.gcd_zero_left]) ht
 · exact least_l s t ht (by omega) (by omega) 33 s t k (by omega) (by omega) rfl (by omega)
theorem rchance_l (a b : List Int) (ha : a.length ≤ 16) (hb : b.length ≤ 16) (mid own : Int) (hm : 0 ≤ mid ∧ mid ≤ 1000) (h0 : 0 < cntB a b (fun _ => true)) : ∀ (m k i : Nat), (beatsU a b).length - i = m → i ≤ (beatsU a b).length → m + 201 ≤ k →
  pianolaref10_Chance.l0 k mid own ((beatsU a b).map (chF a b)) (psI (beatsU a b) (fun x => decide (own ≤ farI x mid)) (chF a b) i) (psI (beatsU a b) (fun _ => true) (chF a b) i) (i : Int)
   = some ((lowI (cntB a b (fun x => decide (own ≤ farI x mid))) (cntB a b (fun _ => true))).1, (lowI (cntB a b (fun x => decide (own ≤ farI x mid))) (cntB a b (fun _ => true))).2, 0) := by
 intro m
 induction m with
 | zero =>
  intro k i h1 h2 h3
  obtain rfl : i = (beatsU a b).length := by omega
  obtain ⟨k, rfl⟩ : ∃ k', k = k' + 1 := ⟨k - 1, by omega⟩
  unfold pianolaref10_Chance.l0
  rw [if_neg (by rw [List.length_map]; omega), psI_all, psI_all, chF_sum, chF_sum, rleast_f _ _ k h0 (cnt_small a b _ ha hb) (cnt_small a b _ ha hb) (by omega)]
  rfl
 | succ m ih =>
  intro k i h1 h2 h3
  have hlt : i < (beatsU a b).length := by omega
  obtain ⟨k, rfl⟩ : ∃ k', k = k' + 1 := ⟨k - 1, by omega⟩
  have h4 := ih k (i + 1) (by omega) hlt (by omega)
  have hU := U_small a b ha hb
  unfold pianolaref10_Chance.l0
  rw [if_pos (by rw [List.length_map]; omega), if_pos (by omega), rfar_f _ _ (by omega) (by omega), Option.bind_some, wrap_up i (by omega), ps_step a b ha hb (fun _ => true) hlt rfl]
  by_cases c1 : own ≤ farI (i : Int) mid
  · rw [if_pos c1, ps_step a b ha hb (fun x => decide (own ≤ farI x mid)) hlt (decide_eq_true c1)]
    exact h4
  · rw [if_neg c1]
    rw [ps_stay a b (fun x => decide (own ≤ farI x mid)) hlt (by simpa using c1)] at h4
    exact h4
theorem refChance_f (a b : List Int) (k : Nat) (hk : 2000 ≤ k) : pianolaref10_Chance.f k a b = hand_Chance.f a b := by
 unfold pianolaref10_Chance.f hand_Chance.f
 rw [refBoth_f a b k (by omega), Option.bind_some]
 by_cases h : bothI a b = 0
 · have hl := both_len h
   have hU := U_small a b hl.1 hl.2
   have hm := mul_in (x := (a.length : Int)) (y := (b.length : Int)) (p := 16) (q := 16) ⟨by omega, by omega⟩ ⟨by omega, by omega⟩
   have hbt := beats_small a b hl.1 hl.2
   have hw : wrap64 ((a.length : Int) * (b.length : Int)) = (a.length : Int) * (b.length : Int) := w64' _ (by omega) (by omega)
   rw [if_pos h, if_pos h, rbeats_f a b k (by omega) (by omega) hk, Option.bind_some, hw]
   generalize hM : (a.length : Int) * (b.length : Int) = M at hm
   rw [rfar_f _ _ (by omega) (by omega), Option.bind_some, rchoices_f h, Option.bind_some]
   refine (rchance_l a b hl.1 hl.2 M (farI (beatsI a b) M) ⟨hm.1, by omega⟩ (cntB_pos a b _ rfl) _ k 0 rfl (Nat.zero_le _) (by omega)).trans ?_
   unfold chanceI
   rw [hM]
 · rw [if_neg h, if_neg h]

end Go.Proofs.Ythddeillkdediaa.H

/- Plain law: the reference's Judge is ours. -/
namespace Go.Proofs.Ythddeillkdediaa.H
open Go.RowKit Go.Proofs.YthddeillkdediaaW.PrintWords Go.Proofs.YthddeillkdediaaW.PrintLast Go.Proofs.YthddeillkdediaaW.PrintMore
open Go.Shelf Go.Proofs.Ythddeillkdediaa.QA
set_option linter.unusedVariables false
set_option linter.unusedSimpArgs false


theorem less_gt (a b c d : Int) : pianolaref10_less.f a b c d = some (gtJ c d a b) := rfl
theorem firstE_snoc (roll : List Int) : ∀ ls : List (List Int), firstE (ls ++ [roll]) = if firstE ls = 0 then chk roll else firstE ls
 | [] => by
  show (if chk roll = 0 then 0 else chk roll) = if (0 : Int) = 0 then chk roll else 0
  rw [if_pos rfl]
  split
  · rename_i h; exact h.symm
  · rfl
 | l :: ls => by
  show (if chk l = 0 then firstE (ls ++ [roll]) else chk l) = if (if chk l = 0 then firstE ls else chk l) = 0 then chk roll else (if chk l = 0 then firstE ls else chk l)
  by_cases h : chk l = 0
  · rw [if_pos h, if_pos h, firstE_snoc roll ls]
  · rw [if_neg h, if_neg h, if_neg h]
theorem rj_l1 (ls : List (List Int)) (roll : List Int) (num den : Int) (hl : ls.length ≤ 12) (hb : ∀ j : Nat, j < ls.length → bothI (rd_L3 ls (j : Int)) roll = 0) : ∀ (m k i : Nat), ls.length - i = m → i ≤ ls.length → m + 3000 ≤ k →
  pianolaref10_Judge.l1 k ls roll ((ls.take i).map (verdJ roll num den)) (bestF ls roll i).2.2 (i : Int) num den (bestF ls roll i).1 (bestF ls roll i).2.1 = some (ls.map (verdJ roll num den), (bestF ls roll ls.length).2.2, 0) := by
 intro m
 induction m with
 | zero =>
  intro k i h1 h2 h3
  obtain rfl : i = ls.length := by omega
  obtain ⟨k, rfl⟩ : ∃ k', k = k' + 1 := ⟨k - 1, by omega⟩
  rw [pianolaref10_Judge.l1, if_neg (by omega), List.take_length]
 | succ m ih =>
  intro k i h1 h2 h3
  have hlt : i < ls.length := by omega
  obtain ⟨k, rfl⟩ : ∃ k', k = k' + 1 := ⟨k - 1, by omega⟩
  have h5 := ih k (i + 1) (by omega) hlt (by omega)
  rw [take_L3 ls hlt, List.map_append] at h5
  have hc : pianolaref10_Chance.f k (rd_L3 ls (i : Int)) roll = some ((chanceI (rd_L3 ls (i : Int)) roll).1, (chanceI (rd_L3 ls (i : Int)) roll).2, 0) := by
   rw [refChance_f _ _ _ (by omega)]
   unfold hand_Chance.f
   rw [if_pos (hb i hlt)]
  have hL : ((ls.take i).map (verdJ roll num den)).length < 17592186044416 := by rw [List.length_map, List.length_take]; omega
  rw [pianolaref10_Judge.l1, if_pos (by omega), if_pos (by omega), hc, Option.bind_some, wrap_up i (by omega)]
  simp only [less_gt, Option.bind_some, if_pos hL]
  have e : bestF ls roll (i + 1) = if gtJ (chanceI (rd_L3 ls i) roll).1 (chanceI (rd_L3 ls i) roll).2 (bestF ls roll i).1 (bestF ls roll i).2.1 = true then ((chanceI (rd_L3 ls i) roll).1, (chanceI (rd_L3 ls i) roll).2, (i : Int)) else bestF ls roll i := rfl
  rw [e] at h5
  simp only [List.map_cons, List.map_nil] at h5
  have ev : verdJ roll num den (rd_L3 ls (i : Int)) = if gtJ (chanceI (rd_L3 ls (i : Int)) roll).1 (chanceI (rd_L3 ls (i : Int)) roll).2 num den = true then 0 else 1 := rfl
  rw [ev] at h5
  by_cases c1 : gtJ (chanceI (rd_L3 ls (i : Int)) roll).1 (chanceI (rd_L3 ls (i : Int)) roll).2 num den = true
  · rw [if_pos c1]
    rw [if_pos c1] at h5
    by_cases c2 : gtJ (chanceI (rd_L3 ls (i : Int)) roll).1 (chanceI (rd_L3 ls (i : Int)) roll).2 (bestF ls roll i).1 (bestF ls roll i).2.1 = true
    · rw [if_pos c2]
      rw [if_pos c2] at h5
      exact h5
    · rw [if_neg c2]
      rw [if_neg c2] at h5
      exact h5
  · rw [if_neg c1]
    rw [if_neg c1] at h5
    by_cases c2 : gtJ (chanceI (rd_L3 ls (i : Int)) roll).1 (chanceI (rd_L3 ls (i : Int)) roll).2 (bestF ls roll i).1 (bestF ls roll i).2.1 = true
    · rw [if_pos c2]
      rw [if_pos c2] at h5
      exact h5
    · rw [if_neg c2]
      rw [if_neg c2] at h5
      exact h5
theorem rj_l0 (ls : List (List Int)) (roll : List Int) (num den : Int) (h0 : ls.length ≠ 0) (hl : ls.length ≤ 12) : ∀ (m k i : Nat), (ls ++ [roll]).length - i = m → i ≤ (ls ++ [roll]).length → (∀ j : Nat, j < i → chk (rd_L3 (ls ++ [roll]) (j : Int)) = 0) → m + 4000 ≤ k →
  pianolaref10_Judge.l0 k ls roll (ls ++ [roll]) (i : Int) num den = some (if errJ ls roll num den = 0 then (ls.map (verdJ roll num den), (bestF ls roll ls.length).2.2, 0) else ([], 0, errJ ls roll num den)) := by
 have hln : (ls ++ [roll]).length = ls.length + 1 := by simp
 have hE : errJ ls roll num den = if firstE (ls ++ [roll]) = 0 then (if isIn 0 num 1000000 = true ∧ isIn 1 den 1000000 = true then 0 else 3) else firstE (ls ++ [roll]) := by
  unfold errJ
  rw [if_neg h0, if_neg (by omega), firstE_snoc]
  by_cases c : firstE ls = 0
  · rw [if_pos c, if_pos c]
  · rw [if_neg c, if_neg c, if_neg c]
 intro m
 induction m with
 | zero =>
  intro k i h1 h2 hj h3
  obtain rfl : i = (ls ++ [roll]).length := by omega
  obtain ⟨k, rfl⟩ : ∃ k', k = k' + 1 + 1 := ⟨k - 2, by omega⟩
  have hF := firstE_zero _ hj
  have hF2 := hF
  rw [firstE_snoc] at hF2
  have hF3 : firstE ls = 0 := by
   by_cases c : firstE ls = 0
   · exact c
   · rw [if_neg c] at hF2; exact absurd hF2 c
  rw [if_pos hF3] at hF2
  rw [if_pos hF] at hE
  have hb : ∀ j : Nat, j < ls.length → bothI (rd_L3 ls (j : Int)) roll = 0 := fun j hjl => chance_one _ _ (firstE_all ls hF3 j hjl) hF2
  have hfin := rj_l1 ls roll num den hl hb ls.length k 0 rfl (Nat.zero_le _) (by omega)
  rw [pianolaref10_Judge.l0, if_neg (by omega), is_f, Option.bind_some, is_f, Option.bind_some]
  by_cases c1 : isIn 0 num 1000000 = true
  · rw [if_pos c1]
    by_cases c2 : isIn 1 den 1000000 = true
    · rw [if_pos (And.intro c1 c2)] at hE
      rw [hE, if_pos rfl, c2, pianolaref10_Judge.j1, if_neg (by decide)]
      exact hfin
    · rw [if_neg (show ¬ (isIn 0 num 1000000 = true ∧ isIn 1 den 1000000 = true) from fun h => c2 h.2)] at hE
      rw [hE, if_neg (by decide), pianolaref10_Judge.j1, if_pos (by simpa using c2)]
  · rw [if_neg (show ¬ (isIn 0 num 1000000 = true ∧ isIn 1 den 1000000 = true) from fun h => c1 h.1)] at hE
    rw [if_neg c1, hE, if_neg (by decide), pianolaref10_Judge.j1, if_pos rfl]
 | succ m ih =>
  intro k i h1 h2 hj h3
  have hlt : i < (ls ++ [roll]).length := by omega
  obtain ⟨k, rfl⟩ : ∃ k', k = k' + 1 := ⟨k - 1, by omega⟩
  rw [pianolaref10_Judge.l0, if_pos (by omega), if_pos (by omega), refCheck_f _ _ (by omega), Option.bind_some, wrap_up i (by omega)]
  by_cases c : chk (rd_L3 (ls ++ [roll]) (i : Int)) = 0
  · rw [if_pos c]
    exact ih k (i + 1) (by omega) hlt (fun j hji => by
     by_cases e : j = i
     · rw [e]; exact c
     · exact hj j (by omega)) (by omega)
  · rw [if_neg c]
    have hf := firstE_hit _ i hlt hj c
    rw [if_neg (by rw [hf]; exact c), hf] at hE
    rw [hE, if_neg c]
theorem refJudge_f (ls : List (List Int)) (roll : List Int) (num den : Int) (k : Nat) (hk : 5000 ≤ k) : pianolaref10_Judge.f k ls roll num den = hand_Judge.f ls roll num den := by
 unfold pianolaref10_Judge.f hand_Judge.f
 by_cases h0 : ls.length = 0
 · have hE : errJ ls roll num den = 4 := by unfold errJ; rw [if_pos h0]
   rw [if_pos (by omega), hE, if_neg (by decide)]
 · rw [if_neg (by omega)]
   by_cases h1 : 12 < ls.length
   · have hE : errJ ls roll num den = 5 := by unfold errJ; rw [if_neg h0, if_pos h1]
     rw [if_pos (by omega), hE, if_neg (by decide)]
   · rw [if_neg (by omega), Option.bind_some, if_pos (by rw [List.length_nil]; omega), Option.bind_some, List.nil_append, if_pos (by omega)]
     exact rj_l0 ls roll num den h0 (by omega) _ k 0 rfl (Nat.zero_le _) (fun j hj => by omega) (by rw [List.length_append]; simp; omega)

end Go.Proofs.Ythddeillkdediaa.H
