/- Texts P9, T4, T5, T6 of this chapter, one behind the other. -/
import Derived.Maps.AppendAt
import Derived.Test.YtkocigldchiifaaQA7
import Derived.Test.YtkocigldchiifaaXB
import Derived.Test.YtkocigldchiifaaXD
import Derived.Test.YtkocigldchiifaaXF
import Derived.Test.YtkocigldchiifaaXG

/- The heights of all walks, one by one; each step of the walk that comes first. -/
namespace Go.Proofs.Ytkocigldchiifaa.H
open Go.RowKit Go.Proofs.YtkocigldchiifaaW.PrintWords Go.Proofs.YtkocigldchiifaaW.PrintLast Go.Proofs.YtkocigldchiifaaW.PrintMore
open Go.Shelf Go.Proofs.Ytkocigldchiifaa.QA
set_option linter.unusedVariables false
set_option linter.unusedSimpArgs false

theorem lawfar_f {x y : S59} (hx : goodB x = true) (hy : goodB y = true) : pianolalaw07_far.f x.f0 x.f1 x.f2 y.f0 y.f1 y.f2 = some (farD x y) := by
 obtain ⟨_, h2, h3⟩ := good_in hx
 obtain ⟨_, h5, h6⟩ := good_in hy
 have w1 : wrap64 (x.f1 - y.f1) = x.f1 - y.f1 := w64' _ (by omega) (by omega)
 have w2 : wrap64 (x.f2 - y.f2) = x.f2 - y.f2 := w64' _ (by omega) (by omega)
 have w3 : wrap64 (-(x.f1 - y.f1)) = y.f1 - x.f1 := by rw [w64' _ (by omega) (by omega)]; omega
 have w4 : wrap64 (-(x.f2 - y.f2)) = y.f2 - x.f2 := by rw [w64' _ (by omega) (by omega)]; omega
 unfold pianolalaw07_far.f farD
 rw [w1, w2, w3, w4]
 split
 · have q1 := apartD_in x.f1 y.f1 1000 h2 h5
   have q2 := apartD_in x.f2 y.f2 1000 h3 h6
   show some (wrap64 (apartD x.f1 y.f1 + apartD x.f2 y.f2)) = _
   rw [w64' _ (by omega) (by omega)]
 · rfl
/-- What heights returns: whether one of the numbers is at most g. -/
def Hs (a b : List S59) (i k h : Int) (L : List Int) : Prop := (hasP a b i k = false → L = []) ∧ (hasP a b i k = true → ∀ g : Int, (∃ x ∈ L, x ≤ g) ↔ (h ≤ g ∧ Way a b g i k))
theorem heights_out {a b : List S59} {i k h : Int} (n : Nat) (hp : hasP a b i k = false) (h0 : 0 ≤ i ∧ 0 ≤ k) : pianolalaw07_heights.f (n + 2) a b i k h = some [] := by
 have hno : ¬ ((0 ≤ i ∧ i < a.length) ∧ (0 ≤ k ∧ k < b.length)) := fun hh => by rw [(hasP_iff a b i k).2 hh] at hp; cases hp
 show (if i ≥ (a.length : Int) then pianolalaw07_heights.j0 (n + 1) a b i k h true else pianolalaw07_heights.j0 (n + 1) a b i k h (decide (k ≥ (b.length : Int)))) = _
 by_cases h1 : i ≥ (a.length : Int)
 · rw [if_pos h1]; rfl
 · rw [if_neg h1, decide_eq_true (show k ≥ (b.length : Int) by omega)]; rfl
theorem mx_le_iff {x y g : Int} : mx x y ≤ g ↔ x ≤ g ∧ y ≤ g := by unfold mx; split <;> omega
theorem heights_in {a b : List S59} (hR : Rolls a b) (hl : a.length ≤ 5 ∧ b.length ≤ 5) : ∀ (t : Nat), t ≤ 10 → ∀ (i k h : Int) (n : Nat), 0 ≤ i → 0 ≤ k → i ≤ a.length → k ≤ b.length → ((a.length : Int) - i) + ((b.length : Int) - k) ≤ t → 3 * t + 2 ≤ n →
  ∃ L, pianolalaw07_heights.f n a b i k h = some L ∧ L.length ≤ 3 ^ t ∧ Hs a b i k h L := by
 intro t
 induction t with
 | zero =>
  intro _ i k h n hi hk hil hkl ht hn
  have hp : hasP a b i k = false := by
   cases hq : hasP a b i k with
   | false => rfl
   | true => have := (hasP_iff a b i k).1 hq; omega
  obtain ⟨m, rfl⟩ : ∃ m, n = m + 2 := ⟨n - 2, by omega⟩
  exact ⟨[], heights_out m hp ⟨hi, hk⟩, by simp, fun _ => rfl, fun hq => by rw [hp] at hq; cases hq⟩
 | succ t ih =>
  intro ht10 i k h n hi hk hil hkl ht hn
  cases hp : hasP a b i k with
  | false =>
   obtain ⟨m, rfl⟩ : ∃ m, n = m + 2 := ⟨n - 2, by omega⟩
   exact ⟨[], heights_out m hp ⟨hi, hk⟩, by simp, fun _ => rfl, fun hq => by rw [hp] at hq; cases hq⟩
  | true =>
   obtain ⟨h1, h2⟩ := (hasP_iff a b i k).1 hp
   obtain ⟨m, rfl⟩ : ∃ m, n = m + 3 := ⟨n - 3, by omega⟩
   have hm : 3 * t + 2 ≤ m := by omega
   have wa : wrap64 ((a.length : Int) - 1) = (a.length : Int) - 1 := w64' _ (by omega) (by omega)
   have wb : wrap64 ((b.length : Int) - 1) = (b.length : Int) - 1 := w64' _ (by omega) (by omega)
   have wi : wrap64 (i + 1) = i + 1 := w64' _ (by omega) (by omega)
   have wk : wrap64 (k + 1) = k + 1 := w64' _ (by omega) (by omega)
   have e0 : pianolalaw07_heights.f (m + 3) a b i k h = pianolalaw07_heights.j1 (m + 1) a b i k (mx h (dist a b i k)) (decide (i = (a.length : Int) - 1 ∧ k = (b.length : Int) - 1)) := by
    show (if i ≥ (a.length : Int) then pianolalaw07_heights.j0 (m + 2) a b i k h true else pianolalaw07_heights.j0 (m + 2) a b i k h (decide (k ≥ (b.length : Int)))) = _
    rw [if_neg (by omega), decide_eq_false (show ¬ k ≥ (b.length : Int) by omega)]
    show (if false = true then some ([] : List Int) else if 0 ≤ i then (if i < (a.length : Int) then (if 0 ≤ k then (if k < (b.length : Int) then ((pianolalaw07_far.f ((rd_T59 a i).f0) ((rd_T59 a i).f1) ((rd_T59 a i).f2) ((rd_T59 b k).f0) ((rd_T59 b k).f1) ((rd_T59 b k).f2)).bind fun t318 => (if i = (wrap64 ((a.length : Int) - 1)) then (pianolalaw07_heights.j1 (m + 1) a b i k (mx h t318) (k == (wrap64 ((b.length : Int) - 1)))) else (pianolalaw07_heights.j1 (m + 1) a b i k (mx h t318) false))) else (none)) else (none)) else (none)) else (none)) = _
    rw [if_neg (by simp), if_pos h1.1, if_pos h1.2, if_pos h2.1, if_pos h2.2, lawfar_f (rd_good hR.ga i h1) (rd_good hR.gb k h2), Option.bind_some, wa, wb]
    show (if i = (a.length : Int) - 1 then pianolalaw07_heights.j1 (m + 1) a b i k (mx h (dist a b i k)) (k == (b.length : Int) - 1) else pianolalaw07_heights.j1 (m + 1) a b i k (mx h (dist a b i k)) false) = _
    by_cases c1 : i = (a.length : Int) - 1
    · rw [if_pos c1]
      congr 1
      by_cases c2 : k = (b.length : Int) - 1
      · rw [decide_eq_true ⟨c1, c2⟩]; exact beq_iff_eq.2 c2
      · rw [decide_eq_false (fun hh => c2 hh.2)]; exact beq_eq_false_iff_ne.2 c2
    · rw [if_neg c1, decide_eq_false (fun hh => c1 hh.1)]
   rw [e0]
   obtain ⟨d, hd⟩ : ∃ d, d = mx h (dist a b i k) := ⟨_, rfl⟩
   have hdg : ∀ g, d ≤ g ↔ h ≤ g ∧ dist a b i k ≤ g := fun g => by rw [hd]; exact mx_le_iff
   rw [← hd]
   by_cases hend : i = (a.length : Int) - 1 ∧ k = (b.length : Int) - 1
   · rw [decide_eq_true hend]
     refine ⟨[d], rfl, Nat.one_le_pow _ _ (by omega), fun hq => (by rw [hp] at hq; cases hq), fun _ g => ?_⟩
     simp only [List.mem_singleton, exists_eq_left]
     rw [hdg]
     refine and_congr_right fun _ => ⟨fun hh => .last i k hend.1 hend.2 hp hh, fun hw => hw.has.2⟩
   · rw [decide_eq_false hend]
     obtain ⟨L1, f1, l1, n1, s1⟩ := ih (by omega) (i + 1) (k + 1) d m (by omega) (by omega) (by omega) (by omega) (by omega) hm
     obtain ⟨L2, f2, l2, n2, s2⟩ := ih (by omega) (i + 1) k d m (by omega) (by omega) (by omega) (by omega) (by omega) hm
     obtain ⟨L3, f3, l3, n3, s3⟩ := ih (by omega) i (k + 1) d m (by omega) (by omega) (by omega) (by omega) (by omega) hm
     have hpow : 3 ^ t ≤ 3 ^ 10 := Nat.pow_le_pow_right (by omega) (by omega)
     have hp10 : 3 ^ 10 = 59049 := by decide
     have e1 : pianolalaw07_heights.j1 (m + 1) a b i k d false = some (L1 ++ L2 ++ L3) := by
      show (if false = true then some [d] else ((pianolalaw07_heights.f m a b (wrap64 (i + 1)) (wrap64 (k + 1)) d).bind fun t322 => ((pianolalaw07_heights.f m a b (wrap64 (i + 1)) k d).bind fun t325 => (if t322.length + t325.length < 17592186044416 then ((some (t322 ++ t325 : List Int)).bind fun y328 => ((pianolalaw07_heights.f m a b i (wrap64 (k + 1)) d).bind fun t331 => (if y328.length + t331.length < 17592186044416 then (some (y328 ++ t331)) else (none)))) else (none))))) = _
      rw [if_neg (by simp), wi, wk, f1, Option.bind_some, f2, Option.bind_some, if_pos (by omega), Option.bind_some, f3, Option.bind_some, if_pos (by rw [List.length_append]; omega)]
     refine ⟨L1 ++ L2 ++ L3, e1, by rw [List.length_append, List.length_append, Nat.pow_succ]; omega, fun hq => (by rw [hp] at hq; cases hq), fun _ g => ?_⟩
     have hw : Way a b g i k ↔ dist a b i k ≤ g ∧ (∃ q ∈ movesOf a b i k, Way a b g q.f0 q.f1) := by
      constructor
      · intro hw
        cases hw with
        | last _ _ e1 e2 _ _ => exact absurd ⟨e1, e2⟩ hend
        | step _ _ q _ hd hq hw => exact ⟨hd, q, hq, hw⟩
      · rintro ⟨hd, q, hq, hw⟩
        exact .step i k q hp hd hq hw
     have one : ∀ (L : List Int) (x y : Int), (hasP a b x y = false → L = []) → (hasP a b x y = true → ∀ g : Int, (∃ z ∈ L, z ≤ g) ↔ (d ≤ g ∧ Way a b g x y)) → ((∃ z ∈ L, z ≤ g) ↔ (d ≤ g ∧ Way a b g x y)) := fun L x y g1 g2 => by
      cases hq : hasP a b x y with
      | true => exact g2 hq g
      | false =>
       rw [g1 hq]
       refine ⟨fun ⟨z, hz, _⟩ => (by cases hz), fun ⟨_, hw⟩ => ?_⟩
       rw [hw.has.1] at hq
       cases hq
     rw [hw]
     have t1 := one L1 _ _ n1 s1
     have t2 := one L2 _ _ n2 s2
     have t3 := one L3 _ _ n3 s3
     rw [show (∃ x ∈ L1 ++ L2 ++ L3, x ≤ g) ↔ ((∃ x ∈ L1, x ≤ g) ∨ (∃ x ∈ L2, x ≤ g) ∨ (∃ x ∈ L3, x ≤ g)) from by
      constructor
      · rintro ⟨x, hx, hg⟩
        rcases List.mem_append.1 hx with hx | hx
        · rcases List.mem_append.1 hx with hx | hx
          · exact .inl ⟨x, hx, hg⟩
          · exact .inr (.inl ⟨x, hx, hg⟩)
        · exact .inr (.inr ⟨x, hx, hg⟩)
      · rintro (⟨x, hx, hg⟩ | ⟨x, hx, hg⟩ | ⟨x, hx, hg⟩)
        · exact ⟨x, List.mem_append_left _ (List.mem_append_left _ hx), hg⟩
        · exact ⟨x, List.mem_append_left _ (List.mem_append_right _ hx), hg⟩
        · exact ⟨x, List.mem_append_right _ hx, hg⟩]
     rw [t1, t2, t3, hdg]
     constructor
     · rintro (⟨⟨g1, g2⟩, g3⟩ | ⟨⟨g1, g2⟩, g3⟩ | ⟨⟨g1, g2⟩, g3⟩)
       · exact ⟨g1, g2, ⟨i + 1, k + 1⟩, mem_moves.2 ⟨g3.has.1, by simp⟩, g3⟩
       · exact ⟨g1, g2, ⟨i + 1, k⟩, mem_moves.2 ⟨g3.has.1, by simp⟩, g3⟩
       · exact ⟨g1, g2, ⟨i, k + 1⟩, mem_moves.2 ⟨g3.has.1, by simp⟩, g3⟩
     · rintro ⟨g1, g2, q, hq, g3⟩
       rcases (moves_mem hq).2 with e | e | e
       · rw [e] at g3; exact .inl ⟨⟨g1, g2⟩, g3⟩
       · rw [e] at g3; exact .inr (.inl ⟨⟨g1, g2⟩, g3⟩)
       · rw [e] at g3; exact .inr (.inr ⟨⟨g1, g2⟩, g3⟩)
/-- The smallest number of a list. -/
theorem least_in (L : List Int) (hl : L.length ≤ 100000) : ∀ (t : Nat) (j : Nat) (m : Int) (n : Nat), L.length - j ≤ t → t + 1 ≤ n →
  ∃ r, pianolalaw07_least.l0 n m L (L.length : Int) (j : Int) = some r ∧ ∀ g : Int, r ≤ g ↔ (m ≤ g ∨ ∃ x ∈ L.drop j, x ≤ g) := by
 intro t
 induction t with
 | zero =>
  intro j m n ht hn
  obtain ⟨n, rfl⟩ : ∃ k, n = k + 1 := ⟨n - 1, by omega⟩
  refine ⟨m, ?_, fun g => ?_⟩
  · show (if (j : Int) < (L.length : Int) then _ else some m) = _
    rw [if_neg (by omega)]
  · rw [List.drop_of_length_le (by omega)]
    simp
 | succ t ih =>
  intro j m n ht hn
  obtain ⟨n, rfl⟩ : ∃ k, n = k + 1 := ⟨n - 1, by omega⟩
  by_cases hj : j < L.length
  · obtain ⟨r, hr, hg⟩ := ih (j + 1) (mn m (rd L j)) n (by omega) (by omega)
    refine ⟨r, ?_, fun g => ?_⟩
    · show (if (j : Int) < (L.length : Int) then (if 0 ≤ (j : Int) then (if (j : Int) < (L.length : Int) then (pianolalaw07_least.l0 n (mn m (rd L j)) L (L.length : Int) (wrap64 ((j : Int) + 1))) else (none)) else (none)) else (some m)) = _
      rw [if_pos (by omega), if_pos (by omega), if_pos (by omega), w64' _ (by omega) (by omega)]
      exact hr
    · rw [hg, List.drop_eq_getElem_cons hj]
      have e : rd L (j : Int) = L[j] := by unfold rd; rw [Int.toNat_natCast, List.getD_eq_getElem?_getD, List.getElem?_eq_getElem hj]; rfl
      rw [e]
      have hm : mn m L[j] ≤ g ↔ m ≤ g ∨ L[j] ≤ g := by unfold mn; split <;> omega
      rw [hm]
      simp only [List.mem_cons, exists_eq_or_imp]
      rw [or_assoc]
  · obtain ⟨r, hr, hg⟩ := ih j m (n + 1) (by omega) (by omega)
    exact ⟨r, hr, hg⟩
theorem least_f (L : List Int) (hl : L.length ≤ 100000) (hne : L ≠ []) : ∃ r, pianolalaw07_least.f (L.length + 1) L = some r ∧ ∀ g : Int, r ≤ g ↔ ∃ x ∈ L, x ≤ g := by
 have hpos := List.length_pos_iff.2 hne
 obtain ⟨r, hr, hg⟩ := least_in L hl L.length 0 (rd L 0) (L.length + 1) (by omega) (by omega)
 refine ⟨r, ?_, fun g => ?_⟩
 · unfold pianolalaw07_least.f
   rw [if_pos (by omega)]
   exact hr
 · rw [hg, List.drop_zero]
   refine ⟨fun h => ?_, .inr⟩
   rcases h with h | h
   · refine ⟨_, ?_, h⟩
     unfold rd
     rw [List.getD_eq_getElem?_getD, List.getElem?_eq_getElem (by simpa using hpos)]
     exact List.getElem_mem _
   · exact h
/-- What the law asks of a pair: some walk from there on is of the gap's height at most. -/
structure Told (a b : List S59) (r : S25) (good : Bool) : Prop where
 out : ∃ L n, pianolalaw07_heights.f n a b r.f0 r.f1 0 = some L ∧ ((L.length = 0 ∧ good = false) ∨ (0 < L.length ∧ ∃ m k, pianolalaw07_least.f k L = some m ∧ decide (m ≤ gapI a b) = good))
theorem told {a b : List S59} (hR : Rolls a b) (hl : a.length ≤ 5 ∧ b.length ≤ 5) (r : S25) (h0 : 0 ≤ r.f0 ∧ 0 ≤ r.f1 ∧ r.f0 ≤ a.length ∧ r.f1 ≤ b.length) : Told a b r (hasP a b r.f0 r.f1 && fitsW a b r) := by
 obtain ⟨L, f1, l1, n1, s1⟩ := heights_in hR hl 10 (by omega) r.f0 r.f1 0 32 h0.1 h0.2.1 h0.2.2.1 h0.2.2.2 (by omega) (by omega)
 have hp10 : 3 ^ 10 = 59049 := by decide
 refine ⟨L, 32, f1, ?_⟩
 cases hp : hasP a b r.f0 r.f1 with
 | false => rw [n1 hp]; exact .inl ⟨rfl, rfl⟩
 | true =>
  have hs := s1 hp
  have hpq := (hasP_iff a b _ _).1 hp
  have hin := rest_in a b hR (a.length + b.length) r.f0 r.f1 hpq.1 hpq.2 (by omega)
  have hne : L ≠ [] := fun e => by
   have := (hs (restI a b r.f0 r.f1)).2 ⟨hin.1, (way_iff hR hp).1 (Int.le_refl _)⟩
   rw [e] at this
   obtain ⟨x, hx, _⟩ := this
   cases hx
  obtain ⟨m, hm, hg⟩ := least_f L (by omega) hne
  refine .inr ⟨List.length_pos_iff.2 hne, m, _, hm, ?_⟩
  rw [Bool.true_and]
  unfold fitsW
  refine decide_eq_decide.2 ?_
  show m ≤ gapI a b ↔ restI a b r.f0 r.f1 ≤ gapI a b
  rw [hg, hs, way_iff hR hp]
  exact and_iff_right (gap_in hR).1
/-- The three pairs a move may lead to, in their order. -/
def cand3 (p : S25) (n : Nat) : S25 := match n with | 0 => ⟨p.f0 + 1, p.f1 + 1⟩ | 1 => ⟨p.f0 + 1, p.f1⟩ | _ => ⟨p.f0, p.f1 + 1⟩
/-- A step of the walk: it goes to the first of the three from which the gap's height is kept. -/
def Stp (a b : List S59) (p q : S25) : Prop := hasP a b p.f0 p.f1 = true ∧ ∃ n, n < 3 ∧ q = cand3 p n ∧ Told a b q true ∧ ∀ m, m < n → cand3 p m ≠ q ∧ Told a b (cand3 p m) false
theorem stp_of {a b : List S59} (hR : Rolls a b) (hl : a.length ≤ 5 ∧ b.length ≤ 5) {i k : Int} {q : S25} (hp : hasP a b i k = true) (hn : nextOf a b i k = some q) : Stp a b ⟨i, k⟩ q ∧ hasP a b q.f0 q.f1 = true := by
 obtain ⟨h1, h2⟩ := (hasP_iff a b i k).1 hp
 have hm : q ∈ movesOf a b i k := List.mem_of_find?_eq_some hn
 have hf : fitsW a b q = true := List.find?_some hn
 have hq := (moves_mem hm).1
 have hT : ∀ n, Told a b (cand3 ⟨i, k⟩ n) (hasP a b (cand3 ⟨i, k⟩ n).f0 (cand3 ⟨i, k⟩ n).f1 && fitsW a b (cand3 ⟨i, k⟩ n)) := fun n => told hR hl _ (by
  unfold cand3
  split <;> (dsimp only; omega))
 have key : (cand3 ⟨i, k⟩ 0 :: cand3 ⟨i, k⟩ 1 :: cand3 ⟨i, k⟩ 2 :: []).find? (fun r => hasP a b r.f0 r.f1 && fitsW a b r) = some q := by
  unfold nextOf movesOf movesTo cand at hn
  rw [List.find?_filter] at hn
  simp only [Bool.decide_and, Bool.decide_eq_true] at hn
  exact hn
 have cases3 : ∀ n, n < 3 → (∀ m, m < n → (hasP a b (cand3 ⟨i, k⟩ m).f0 (cand3 ⟨i, k⟩ m).f1 && fitsW a b (cand3 ⟨i, k⟩ m)) = false) → q = cand3 ⟨i, k⟩ n → Stp a b ⟨i, k⟩ q := fun n hn3 hno e => by
  refine ⟨hp, n, hn3, e, ?_, fun m hm => ?_⟩
  · have := hT n
    rw [← e, hq, hf] at this
    exact this
  · have h3 := hno m hm
    have h4 := hT m
    rw [h3] at h4
    refine ⟨fun e2 => ?_, h4⟩
    rw [e2, hq, hf] at h3
    cases h3
 refine ⟨?_, hq⟩
 rw [List.find?_cons] at key
 split at key
 · rename_i g0
   exact cases3 0 (by omega) (fun m hm => by omega) (Option.some.inj key).symm
 · rename_i g0
   rw [List.find?_cons] at key
   split at key
   · exact cases3 1 (by omega) (fun m hm => by obtain rfl : m = 0 := (by omega); simpa using g0) (Option.some.inj key).symm
   · rename_i g1
     rw [List.find?_cons] at key
     split at key
     · refine cases3 2 (by omega) (fun m hm => ?_) (Option.some.inj key).symm
       obtain rfl | rfl : m = 0 ∨ m = 1 := by omega
       · simpa using g0
       · simpa using g1
     · cases key
/-- Each step of a list. -/
def Steps (R : S25 → S25 → Prop) : List S25 → Prop
 | p :: q :: l => R p q ∧ Steps R (q :: l)
 | _ => True
theorem steps_at {R : S25 → S25 → Prop} : ∀ (l : List S25), Steps R l → ∀ j, j + 1 < l.length → R (l.getD j z25) (l.getD (j + 1) z25) := by
 intro l
 induction l with
 | nil => intro _ j hj; simp at hj
 | cons p l ih =>
  intro hs j hj
  cases l with
  | nil => simp at hj
  | cons q l =>
   cases j with
   | zero => exact hs.1
   | succ j => exact ih hs.2 j (by simpa using hj)
theorem walk_steps {a b : List S59} (hR : Rolls a b) (hl : a.length ≤ 5 ∧ b.length ≤ 5) : ∀ (n : Nat) (i k : Int), hasP a b i k = true → restI a b i k ≤ restI a b 0 0 → ((a.length : Int) - 1 - i) + ((b.length : Int) - 1 - k) ≤ n →
  Steps (Stp a b) (⟨i, k⟩ :: walkFrom a b n i k) ∧ (⟨i, k⟩ :: walkFrom a b n i k).getLast? = some ⟨(a.length : Int) - 1, (b.length : Int) - 1⟩ ∧ (walkFrom a b n i k).length ≤ n := by
 intro n
 induction n with
 | zero =>
  intro i k hp hg hn
  obtain ⟨h1, h2⟩ := (hasP_iff a b i k).1 hp
  obtain rfl : i = (a.length : Int) - 1 := by omega
  obtain rfl : k = (b.length : Int) - 1 := by omega
  exact ⟨trivial, rfl, Nat.le_refl _⟩
 | succ n ih =>
  intro i k hp hg hn
  obtain ⟨h1, h2⟩ := (hasP_iff a b i k).1 hp
  by_cases he : i = (a.length : Int) - 1 ∧ k = (b.length : Int) - 1
  · rw [walk_end he]
    obtain ⟨rfl, rfl⟩ := he
    exact ⟨trivial, rfl, Nat.zero_le _⟩
  · obtain ⟨q, hq, hm, hr⟩ := next_some a b hR i k h1 h2 he hg
    have e : walkFrom a b (n + 1) i k = q :: walkFrom a b n q.f0 q.f1 := by
     show (if _ then _ else match nextOf a b i k with | some q => q :: walkFrom a b n q.f0 q.f1 | none => []) = _
     rw [if_neg he, hq]
    obtain ⟨hs, hqp⟩ := stp_of hR hl hp hq
    have hlt : ((a.length : Int) - 1 - q.f0) + ((b.length : Int) - 1 - q.f1) ≤ n := by
     rcases (moves_mem hm).2 with e | e | e <;> rw [e] <;> dsimp only <;> omega
    obtain ⟨g1, g2, g3⟩ := ih q.f0 q.f1 hqp hr hlt
    rw [e]
    exact ⟨⟨hs, g1⟩, by rw [List.getLast?_cons_cons]; exact g2, by rw [List.length_cons]; omega⟩
structure WalkAll (a b : List S59) (W : List S25) : Prop where
 pos : 0 < W.length
 len : W.length ≤ 11
 first : rd_T25 W 0 = ⟨0, 0⟩
 last : rd_T25 W ((W.length : Int) - 1) = ⟨(a.length : Int) - 1, (b.length : Int) - 1⟩
 step : ∀ j : Nat, j + 1 < W.length → Stp a b (rd_T25 W (j : Int)) (rd_T25 W ((j : Int) + 1))
theorem walk_all {a b : List S59} (hR : Rolls a b) (hl : a.length ≤ 5 ∧ b.length ≤ 5) : WalkAll a b (walkOf a b) := by
 obtain ⟨h1, h2, h3⟩ := walk_steps hR hl (a.length + b.length) 0 0 (has0 hR) (Int.le_refl _) (by omega)
 refine ⟨by unfold walkOf; simp, by unfold walkOf; rw [List.length_cons]; omega, rfl, ?_, fun j hj => ?_⟩
 · have h4 : (walkOf a b).getLast? = some ⟨(a.length : Int) - 1, (b.length : Int) - 1⟩ := h2
   rw [List.getLast?_eq_getElem?] at h4
   unfold rd_T25
   rw [show (((walkOf a b).length : Int) - 1).toNat = (walkOf a b).length - 1 by omega, List.getD_eq_getElem?_getD, h4]
   rfl
 · have h4 := steps_at (walkOf a b) h1 j hj
   unfold rd_T25
   rw [Int.toNat_natCast, show ((j : Int) + 1).toNat = j + 1 by omega]
   exact h4

end Go.Proofs.Ytkocigldchiifaa.H

/- Rows of events of one's own: appended to, stored into. -/
namespace Go.Proofs.Ytkocigldchiifaa.H
open Go.RowKit Go.Proofs.YtkocigldchiifaaW.PrintWords Go.Proofs.YtkocigldchiifaaW.PrintLast Go.Proofs.YtkocigldchiifaaW.PrintMore
open Go.Shelf Go.Proofs.Ytkocigldchiifaa.QA
set_option linter.unusedVariables false
set_option linter.unusedSimpArgs false

def cellsE (xs : List S59) : List Value := xs.flatMap fun x => [.int .i64 x.f0, .int .i64 x.f1, .int .i64 x.f2]
theorem cellsE_get (xs : List S59) (i : Nat) (x : S59) (h : xs[i]? = some x) : (cellsE xs)[3 * i]? = some (.int .i64 x.f0) ∧ (cellsE xs)[3 * i + 1]? = some (.int .i64 x.f1) ∧ (cellsE xs)[3 * i + 2]? = some (.int .i64 x.f2) := by
 induction xs generalizing i with
 | nil => simp at h
 | cons y xs ih =>
  have e : cellsE (y :: xs) = .int .i64 y.f0 :: .int .i64 y.f1 :: .int .i64 y.f2 :: cellsE xs := by simp [cellsE]
  rw [e]
  cases i with
  | zero => simp at h; subst h; simp
  | succ i =>
   have := ih i (by simpa using h)
   rw [show 3 * (i + 1) = 3 * i + 1 + 1 + 1 by omega]
   simpa using this
/-- An own row of events. -/
def OwnE (W : World) (base : Nat) (v : Value) (xs : List S59) : Prop := W.ownsRow base 59 3 v xs.length (cellsE xs)
theorem reps_E (w : World) (base : Nat) (ok : Nat → Prop) (xs : List S59) : Reps (k59.M w base ok) 3 xs (cellsE xs) := by
 have h : ∀ (ys zs : List S59), Reps (k59.M w base ok) 3 ys (cellsE ys) → Reps (k59.M w base ok) 3 (ys ++ zs) (cellsE (ys ++ zs)) := fun ys zs => by
  induction zs generalizing ys with
  | nil => intro h; simpa using h
  | cons z zs ih =>
   intro h
   have := ih (ys ++ [z]) (by
    have h2 := h.snoc (p := z) (c := [.int .i64 z.f0, .int .i64 z.f1, .int .i64 z.f2]) (k59_mkM w base ok z) rfl
    simpa [cellsE] using h2)
   simpa using this
 simpa using h [] xs (Reps.none _ _)
theorem OwnE.R {W : World} {base : Nat} {v : Value} {xs : List S59} (h : OwnE W base v xs) : Kd.R k59 59 W base (fun _ => True) v xs := ⟨fun _ _ => trivial, cellsE xs, h, reps_E _ _ _ xs⟩
theorem OwnE.reads {W : World} {base : Nat} {v : Value} {xs : List S59} (h : OwnE W base v xs) : ∃ A c, v = .slice A xs.length c ∧ xs.length ≤ c ∧ Kd.C k59 W A xs.length xs := Kd.R_reads h.R
theorem OwnE.below {W W' : World} {base : Nat} {v : Value} {xs : List S59} (h : OwnE W base v xs) (hb : Below W.heap.size W W') : OwnE W' base v xs := by
 obtain ⟨h1, h2⟩ := h
 refine ⟨h1, ?_⟩
 rcases h2 with h2 | ⟨g, cap, cur, h3, h4, h5, h6⟩
 · exact .inl h2
 · exact .inr ⟨g, cap, cur, h3, h4, (hb.block g (Array.getElem?_eq_some_iff.1 h5).1).trans h5, h6⟩
end Go.Proofs.Ytkocigldchiifaa.H

/- pianolalaw07.AlignChanged. -/
namespace Go.Proofs.Ytkocigldchiifaa.H
open Go.RowKit Go.Proofs.YtkocigldchiifaaW.PrintWords Go.Proofs.YtkocigldchiifaaW.PrintLast Go.Proofs.YtkocigldchiifaaW.PrintMore
open Go.Shelf Go.Proofs.Ytkocigldchiifaa.QA
set_option linter.unusedVariables false
set_option linter.unusedSimpArgs false

theorem OwnE.cell1 {W : World} {base g cap n : Nat} {xs : List S59} (h : OwnE W base (.slice (some ⟨g, 0, none⟩) n cap) xs) (j : Nat) (hj : j < xs.length) : W.cell? ⟨g, j * 3 + 1, none⟩ = some (.int .i64 (rd_T59 xs j).f1) ∧ W.frozen? ⟨g, j * 3 + 1, none⟩ = false := by
 rcases h.2 with ⟨h3, _⟩ | ⟨g', cap', cur, h3, h4, h5, h6, h7, h8, h9⟩
 · cases h3
 · cases h3
   have hx : xs[j]? = some (rd_T59 xs j) := by unfold rd_T59; rw [Int.toNat_natCast, List.getD_eq_getElem?_getD, List.getElem?_eq_getElem hj]; rfl
   have h10 := (cellsE_get xs j _ hx).2.1
   rw [← h9, List.getElem?_take_of_lt (by omega), Array.getElem?_toList] at h10
   refine ⟨?_, blk_frozen h5 _⟩
   unfold World.cell?
   simp only [h5]
   rw [Nat.mul_comm j 3]
   exact h10
end Go.Proofs.Ytkocigldchiifaa.H

/- pianolalaw07.AlignRepeated. -/
namespace Go.Proofs.Ytkocigldchiifaa.H
open Go.RowKit Go.Proofs.YtkocigldchiifaaW.PrintWords Go.Proofs.YtkocigldchiifaaW.PrintLast Go.Proofs.YtkocigldchiifaaW.PrintMore
open Go.Shelf Go.Proofs.Ytkocigldchiifaa.QA
set_option linter.unusedVariables false
set_option linter.unusedSimpArgs false

theorem wrap_small (x : Int) (h0 : 0 ≤ x) (h1 : x ≤ 1000000) : wrap64 x = x := by unfold wrap64; omega
end Go.Proofs.Ytkocigldchiifaa.H
