/- Texts T4, T6, P9, T9 of this chapter, one behind the other. -/
import Derived.Maps.AppendAt
import Derived.Test.YtkocigldchiifaaQA7
import Derived.Test.YtkocigldchiifaaXB
import Derived.Test.YtkocigldchiifaaXC
import Derived.Test.YtkocigldchiifaaXD
import Derived.Test.YtkocigldchiifaaXF
import Derived.Test.YtkocigldchiifaaXG

/- Rows of events of one's own: appended to, stored into. -/
namespace Go.Proofs.Ytkocigldchiifaa.H
open Go.RowKit Go.Proofs.YtkocigldchiifaaW.PrintWords Go.Proofs.YtkocigldchiifaaW.PrintLast Go.Proofs.YtkocigldchiifaaW.PrintMore
open Go.Shelf Go.Proofs.Ytkocigldchiifaa.QA
set_option linter.unusedVariables false
set_option linter.unusedSimpArgs false

def cellsE (xs : List S59) : List Value := xs.flatMap fun x => [.int .i64 x.f0, .int .i64 x.f1, .int .i64 x.f2]
/-- An own row of events. -/
def OwnE (W : World) (base : Nat) (v : Value) (xs : List S59) : Prop := W.ownsRow base 59 3 v xs.length (cellsE xs)
theorem reps_E (w : World) (base : Nat) (ok : Nat → Prop) (xs : List S59) : Reps (k59.M w base ok) 3 xs (cellsE xs) := by
 have h : ∀ (ys zs : List S59), Reps (k59.M w base ok) 3 ys (cellsE ys) → Reps (k59.M w base ok) 3 (ys ++ zs) (cellsE (ys ++ zs)) := fun ys zs => by
  induction zs generalizing ys with
  | nil => intro h; simpa using h
  | cons z zs ih =>
   intro h
   have := ih (ys ++ [z]) (by
    have h2 := h.snoc (p := z) (c := [.int .i64 z.f0, .int .i64 z.f1, .int .i64 z.f2]) (k59_mkM w base ok z) rfl
    simpa [cellsE] using h2)
   simpa using this
 simpa using h [] xs (Reps.none _ _)
theorem OwnE.R {W : World} {base : Nat} {v : Value} {xs : List S59} (h : OwnE W base v xs) : Kd.R k59 59 W base (fun _ => True) v xs := ⟨fun _ _ => trivial, cellsE xs, h, reps_E _ _ _ xs⟩
theorem OwnE.reads {W : World} {base : Nat} {v : Value} {xs : List S59} (h : OwnE W base v xs) : ∃ A c, v = .slice A xs.length c ∧ xs.length ≤ c ∧ Kd.C k59 W A xs.length xs := Kd.R_reads h.R
theorem OwnE.below {W W' : World} {base : Nat} {v : Value} {xs : List S59} (h : OwnE W base v xs) (hb : Below W.heap.size W W') : OwnE W' base v xs := by
 obtain ⟨h1, h2⟩ := h
 refine ⟨h1, ?_⟩
 rcases h2 with h2 | ⟨g, cap, cur, h3, h4, h5, h6⟩
 · exact .inl h2
 · exact .inr ⟨g, cap, cur, h3, h4, (hb.block g (Array.getElem?_eq_some_iff.1 h5).1).trans h5, h6⟩
end Go.Proofs.Ytkocigldchiifaa.H

/- pianolalaw07.AlignRepeated. -/
namespace Go.Proofs.Ytkocigldchiifaa.H
open Go.RowKit Go.Proofs.YtkocigldchiifaaW.PrintWords Go.Proofs.YtkocigldchiifaaW.PrintLast Go.Proofs.YtkocigldchiifaaW.PrintMore
open Go.Shelf Go.Proofs.Ytkocigldchiifaa.QA
set_option linter.unusedVariables false
set_option linter.unusedSimpArgs false

theorem wrap_small (x : Int) (h0 : 0 ≤ x) (h1 : x ≤ 1000000) : wrap64 x = x := by unfold wrap64; omega
end Go.Proofs.Ytkocigldchiifaa.H

/- The heights of all walks, one by one; each step of the walk that comes first. -/
namespace Go.Proofs.Ytkocigldchiifaa.H
open Go.RowKit Go.Proofs.YtkocigldchiifaaW.PrintWords Go.Proofs.YtkocigldchiifaaW.PrintLast Go.Proofs.YtkocigldchiifaaW.PrintMore
open Go.Shelf Go.Proofs.Ytkocigldchiifaa.QA
set_option linter.unusedVariables false
set_option linter.unusedSimpArgs false

theorem lawfar_f {x y : S59} (hx : goodB x = true) (hy : goodB y = true) : pianolalaw07_far.f x.f0 x.f1 x.f2 y.f0 y.f1 y.f2 = some (farD x y) := by
 obtain ⟨_, h2, h3⟩ := good_in hx
 obtain ⟨_, h5, h6⟩ := good_in hy
 have w1 : wrap64 (x.f1 - y.f1) = x.f1 - y.f1 := w64' _ (by omega) (by omega)
 have w2 : wrap64 (x.f2 - y.f2) = x.f2 - y.f2 := w64' _ (by omega) (by omega)
 have w3 : wrap64 (-(x.f1 - y.f1)) = y.f1 - x.f1 := by rw [w64' _ (by omega) (by omega)]; omega
 have w4 : wrap64 (-(x.f2 - y.f2)) = y.f2 - x.f2 := by rw [w64' _ (by omega) (by omega)]; omega
 unfold pianolalaw07_far.f farD
 rw [w1, w2, w3, w4]
 split
 · have q1 := apartD_in x.f1 y.f1 1000 h2 h5
   have q2 := apartD_in x.f2 y.f2 1000 h3 h6
   show some (wrap64 (apartD x.f1 y.f1 + apartD x.f2 y.f2)) = _
   rw [w64' _ (by omega) (by omega)]
 · rfl
/-- What heights returns: whether one of the numbers is at most g. -/
def Hs (a b : List S59) (i k h : Int) (L : List Int) : Prop := (hasP a b i k = false → L = []) ∧ (hasP a b i k = true → ∀ g : Int, (∃ x ∈ L, x ≤ g) ↔ (h ≤ g ∧ Way a b g i k))
theorem heights_out {a b : List S59} {i k h : Int} (n : Nat) (hp : hasP a b i k = false) (h0 : 0 ≤ i ∧ 0 ≤ k) : pianolalaw07_heights.f (n + 2) a b i k h = some [] := by
 have hno : ¬ ((0 ≤ i ∧ i < a.length) ∧ (0 ≤ k ∧ k < b.length)) := fun hh => by rw [(hasP_iff a b i k).2 hh] at hp; cases hp
 show (if i ≥ (a.length : Int) then pianolalaw07_heights.j0 (n + 1) a b i k h true else pianolalaw07_heights.j0 (n + 1) a b i k h (decide (k ≥ (b.length : Int)))) = _
 by_cases h1 : i ≥ (a.length : Int)
 · rw [if_pos h1]; rfl
 · rw [if_neg h1, decide_eq_true (show k ≥ (b.length : Int) by omega)]; rfl
theorem mx_le_iff {x y g : Int} : mx x y ≤ g ↔ x ≤ g ∧ y ≤ g := by unfold mx; split <;> omega
theorem heights_in {a b : List S59} (hR : Rolls a b) (hl : a.length ≤ 5 ∧ b.length ≤ 5) : ∀ (t : Nat), t ≤ 10 → ∀ (i k h : Int) (n : Nat), 0 ≤ i → 0 ≤ k → i ≤ a.length → k ≤ b.length → ((a.length : Int) - i) + ((b.length : Int) - k) ≤ t → 3 * t + 2 ≤ n →
  ∃ L, pianolalaw07_heights.f n a b i k h = some L ∧ L.length ≤ 3 ^ t ∧ Hs a b i k h L := by
 intro t
 induction t with
 | zero =>
  intro _ i k h n hi hk hil hkl ht hn
  have hp : hasP a b i k = false := by
   cases hq : hasP a b i k with
   | false => rfl
   | true => have := (hasP_iff a b i k).1 hq; omega
  obtain ⟨m, rfl⟩ : ∃ m, n = m + 2 := ⟨n - 2, by omega⟩
  exact ⟨[], heights_out m hp ⟨hi, hk⟩, by simp, fun _ => rfl, fun hq => by rw [hp] at hq; cases hq⟩
 | succ t ih =>
  intro ht10 i k h n hi hk hil hkl ht hn
  cases hp : hasP a b i k with
  | false =>
   obtain ⟨m, rfl⟩ : ∃ m, n = m + 2 := ⟨n - 2, by omega⟩
   exact ⟨[], heights_out m hp ⟨hi, hk⟩, by simp, fun _ => rfl, fun hq => by rw [hp] at hq; cases hq⟩
  | true =>
   obtain ⟨h1, h2⟩ := (hasP_iff a b i k).1 hp
   obtain ⟨m, rfl⟩ : ∃ m, n = m + 3 := ⟨n - 3, by omega⟩
   have hm : 3 * t + 2 ≤ m := by omega
   have wa : wrap64 ((a.length : Int) - 1) = (a.length : Int) - 1 := w64' _ (by omega) (by omega)
   have wb : wrap64 ((b.length : Int) - 1) = (b.length : Int) - 1 := w64' _ (by omega) (by omega)
   have wi : wrap64 (i + 1) = i + 1 := w64' _ (by omega) (by omega)
   have wk : wrap64 (k + 1) = k + 1 := w64' _ (by omega) (by omega)
   have e0 : pianolalaw07_heights.f (m + 3) a b i k h = pianolalaw07_heights.j1 (m + 1) a b i k (mx h (dist a b i k)) (decide (i = (a.length : Int) - 1 ∧ k = (b.length : Int) - 1)) := by
    show (if i ≥ (a.length : Int) then pianolalaw07_heights.j0 (m + 2) a b i k h true else pianolalaw07_heights.j0 (m + 2) a b i k h (decide (k ≥ (b.length : Int)))) = _
    rw [if_neg (by omega), decide_eq_false (show ¬ k ≥ (b.length : Int) by omega)]
    show (if false = true then some ([] : List Int) else if 0 ≤ i then (if i < (a.length : Int) then (if 0 ≤ k then (if k < (b.length : Int) then ((pianolalaw07_far.f ((rd_T59 a i).f0) ((rd_T59 a i).f1) ((rd_T59 a i).f2) ((rd_T59 b k).f0) ((rd_T59 b k).f1) ((rd_T59 b k).f2)).bind fun t318 => (if i = (wrap64 ((a.length : Int) - 1)) then (pianolalaw07_heights.j1 (m + 1) a b i k (mx h t318) (k == (wrap64 ((b.length : Int) - 1)))) else (pianolalaw07_heights.j1 (m + 1) a b i k (mx h t318) false))) else (none)) else (none)) else (none)) else (none)) = _
    rw [if_neg (by simp), if_pos h1.1, if_pos h1.2, if_pos h2.1, if_pos h2.2, lawfar_f (rd_good hR.ga i h1) (rd_good hR.gb k h2), Option.bind_some, wa, wb]
    show (if i = (a.length : Int) - 1 then pianolalaw07_heights.j1 (m + 1) a b i k (mx h (dist a b i k)) (k == (b.length : Int) - 1) else pianolalaw07_heights.j1 (m + 1) a b i k (mx h (dist a b i k)) false) = _
    by_cases c1 : i = (a.length : Int) - 1
    · rw [if_pos c1]
      congr 1
      by_cases c2 : k = (b.length : Int) - 1
      · rw [decide_eq_true ⟨c1, c2⟩]; exact beq_iff_eq.2 c2
      · rw [decide_eq_false (fun hh => c2 hh.2)]; exact beq_eq_false_iff_ne.2 c2
    · rw [if_neg c1, decide_eq_false (fun hh => c1 hh.1)]
   rw [e0]
   obtain ⟨d, hd⟩ : ∃ d, d = mx h (dist a b i k) := ⟨_, rfl⟩
   have hdg : ∀ g, d ≤ g ↔ h ≤ g ∧ dist a b i k ≤ g := fun g => by rw [hd]; exact mx_le_iff
   rw [← hd]
   by_cases hend : i = (a.length : Int) - 1 ∧ k = (b.length : Int) - 1
   · rw [decide_eq_true hend]
     refine ⟨[d], rfl, Nat.one_le_pow _ _ (by omega), fun hq => (by rw [hp] at hq; cases hq), fun _ g => ?_⟩
     simp only [List.mem_singleton, exists_eq_left]
     rw [hdg]
     refine and_congr_right fun _ => ⟨fun hh => .last i k hend.1 hend.2 hp hh, fun hw => hw.has.2⟩
   · rw [decide_eq_false hend]
     obtain ⟨L1, f1, l1, n1, s1⟩ := ih (by omega) (i + 1) (k + 1) d m (by omega) (by omega) (by omega) (by omega) (by omega) hm
     obtain ⟨L2, f2, l2, n2, s2⟩ := ih (by omega) (i + 1) k d m (by omega) (by omega) (by omega) (by omega) (by omega) hm
     obtain ⟨L3, f3, l3, n3, s3⟩ := ih (by omega) i (k + 1) d m (by omega) (by omega) (by omega) (by omega) (by omega) hm
     have hpow : 3 ^ t ≤ 3 ^ 10 := Nat.pow_le_pow_right (by omega) (by omega)
     have hp10 : 3 ^ 10 = 59049 := by decide
     have e1 : pianolalaw07_heights.j1 (m + 1) a b i k d false = some (L1 ++ L2 ++ L3) := by
      show (if false = true then some [d] else ((pianolalaw07_heights.f m a b (wrap64 (i + 1)) (wrap64 (k + 1)) d).bind fun t322 => ((pianolalaw07_heights.f m a b (wrap64 (i + 1)) k d).bind fun t325 => (if t322.length + t325.length < 17592186044416 then ((some (t322 ++ t325 : List Int)).bind fun y328 => ((pianolalaw07_heights.f m a b i (wrap64 (k + 1)) d).bind fun t331 => (if y328.length + t331.length < 17592186044416 then (some (y328 ++ t331)) else (none)))) else (none))))) = _
      rw [if_neg (by simp), wi, wk, f1, Option.bind_some, f2, Option.bind_some, if_pos (by omega), Option.bind_some, f3, Option.bind_some, if_pos (by rw [List.length_append]; omega)]
     refine ⟨L1 ++ L2 ++ L3, e1, by rw [List.length_append, List.length_append, Nat.pow_succ]; omega, fun hq => (by rw [hp] at hq; cases hq), fun _ g => ?_⟩
     have hw : Way a b g i k ↔ dist a b i k ≤ g ∧ (∃ q ∈ movesOf a b i k, Way a b g q.f0 q.f1) := by
      constructor
      · intro hw
        cases hw with
        | last _ _ e1 e2 _ _ => exact absurd ⟨e1, e2⟩ hend
        | step _ _ q _ hd hq hw => exact ⟨hd, q, hq, hw⟩
      · rintro ⟨hd, q, hq, hw⟩
        exact .step i k q hp hd hq hw
     have one : ∀ (L : List Int) (x y : Int), (hasP a b x y = false → L = []) → (hasP a b x y = true → ∀ g : Int, (∃ z ∈ L, z ≤ g) ↔ (d ≤ g ∧ Way a b g x y)) → ((∃ z ∈ L, z ≤ g) ↔ (d ≤ g ∧ Way a b g x y)) := fun L x y g1 g2 => by
      cases hq : hasP a b x y with
      | true => exact g2 hq g
      | false =>
       rw [g1 hq]
       refine ⟨fun ⟨z, hz, _⟩ => (by cases hz), fun ⟨_, hw⟩ => ?_⟩
       rw [hw.has.1] at hq
       cases hq
     rw [hw]
     have t1 := one L1 _ _ n1 s1
     have t2 := one L2 _ _ n2 s2
     have t3 := one L3 _ _ n3 s3
     rw [show (∃ x ∈ L1 ++ L2 ++ L3, x ≤ g) ↔ ((∃ x ∈ L1, x ≤ g) ∨ (∃ x ∈ L2, x ≤ g) ∨ (∃ x ∈ L3, x ≤ g)) from by
      constructor
      · rintro ⟨x, hx, hg⟩
        rcases List.mem_append.1 hx with hx | hx
        · rcases List.mem_append.1 hx with hx | hx
          · exact .inl ⟨x, hx, hg⟩
          · exact .inr (.inl ⟨x, hx, hg⟩)
        · exact .inr (.inr ⟨x, hx, hg⟩)
      · rintro (⟨x, hx, hg⟩ | ⟨x, hx, hg⟩ | ⟨x, hx, hg⟩)
        · exact ⟨x, List.mem_append_left _ (List.mem_append_left _ hx), hg⟩
        · exact ⟨x, List.mem_append_left _ (List.mem_append_right _ hx), hg⟩
        · exact ⟨x, List.mem_append_right _ hx, hg⟩]
     rw [t1, t2, t3, hdg]
     constructor
     · rintro (⟨⟨g1, g2⟩, g3⟩ | ⟨⟨g1, g2⟩, g3⟩ | ⟨⟨g1, g2⟩, g3⟩)
       · exact ⟨g1, g2, ⟨i + 1, k + 1⟩, mem_moves.2 ⟨g3.has.1, by simp⟩, g3⟩
       · exact ⟨g1, g2, ⟨i + 1, k⟩, mem_moves.2 ⟨g3.has.1, by simp⟩, g3⟩
       · exact ⟨g1, g2, ⟨i, k + 1⟩, mem_moves.2 ⟨g3.has.1, by simp⟩, g3⟩
     · rintro ⟨g1, g2, q, hq, g3⟩
       rcases (moves_mem hq).2 with e | e | e
       · rw [e] at g3; exact .inl ⟨⟨g1, g2⟩, g3⟩
       · rw [e] at g3; exact .inr (.inl ⟨⟨g1, g2⟩, g3⟩)
       · rw [e] at g3; exact .inr (.inr ⟨⟨g1, g2⟩, g3⟩)
/-- The smallest number of a list. -/
theorem least_in (L : List Int) (hl : L.length ≤ 100000) : ∀ (t : Nat) (j : Nat) (m : Int) (n : Nat), L.length - j ≤ t → t + 1 ≤ n →
  ∃ r, pianolalaw07_least.l0 n m L (L.length : Int) (j : Int) = some r ∧ ∀ g : Int, r ≤ g ↔ (m ≤ g ∨ ∃ x ∈ L.drop j, x ≤ g) := by
 intro t
 induction t with
 | zero =>
  intro j m n ht hn
  obtain ⟨n, rfl⟩ : ∃ k, n = k + 1 := ⟨n - 1, by omega⟩
  refine ⟨m, ?_, fun g => ?_⟩
  · show (if (j : Int) < (L.length : Int) then _ else some m) = _
    rw [if_neg (by omega)]
  · rw [List.drop_of_length_le (by omega)]
    simp
 | succ t ih =>
  intro j m n ht hn
  obtain ⟨n, rfl⟩ : ∃ k, n = k + 1 := ⟨n - 1, by omega⟩
  by_cases hj : j < L.length
  · obtain ⟨r, hr, hg⟩ := ih (j + 1) (mn m (rd L j)) n (by omega) (by omega)
    refine ⟨r, ?_, fun g => ?_⟩
    · show (if (j : Int) < (L.length : Int) then (if 0 ≤ (j : Int) then (if (j : Int) < (L.length : Int) then (pianolalaw07_least.l0 n (mn m (rd L j)) L (L.length : Int) (wrap64 ((j : Int) + 1))) else (none)) else (none)) else (some m)) = _
      rw [if_pos (by omega), if_pos (by omega), if_pos (by omega), w64' _ (by omega) (by omega)]
      exact hr
    · rw [hg, List.drop_eq_getElem_cons hj]
      have e : rd L (j : Int) = L[j] := by unfold rd; rw [Int.toNat_natCast, List.getD_eq_getElem?_getD, List.getElem?_eq_getElem hj]; rfl
      rw [e]
      have hm : mn m L[j] ≤ g ↔ m ≤ g ∨ L[j] ≤ g := by unfold mn; split <;> omega
      rw [hm]
      simp only [List.mem_cons, exists_eq_or_imp]
      rw [or_assoc]
  · obtain ⟨r, hr, hg⟩ := ih j m (n + 1) (by omega) (by omega)
    exact ⟨r, hr, hg⟩
theorem least_f (L : List Int) (hl : L.length ≤ 100000) (hne : L ≠ []) : ∃ r, pianolalaw07_least.f (L.length + 1) L = some r ∧ ∀ g : Int, r ≤ g ↔ ∃ x ∈ L, x ≤ g := by
 have hpos := List.length_pos_iff.2 hne
 obtain ⟨r, hr, hg⟩ := least_in L hl L.length 0 (rd L 0) (L.length + 1) (by omega) (by omega)
 refine ⟨r, ?_, fun g => ?_⟩
 · unfold pianolalaw07_least.f
   rw [if_pos (by omega)]
   exact hr
 · rw [hg, List.drop_zero]
   refine ⟨fun h => ?_, .inr⟩
   rcases h with h | h
   · refine ⟨_, ?_, h⟩
     unfold rd
     rw [List.getD_eq_getElem?_getD, List.getElem?_eq_getElem (by simpa using hpos)]
     exact List.getElem_mem _
   · exact h
/-- What the law asks of a pair: some walk from there on is of the gap's height at most. -/
structure Told (a b : List S59) (r : S25) (good : Bool) : Prop where
 out : ∃ L n, pianolalaw07_heights.f n a b r.f0 r.f1 0 = some L ∧ ((L.length = 0 ∧ good = false) ∨ (0 < L.length ∧ ∃ m k, pianolalaw07_least.f k L = some m ∧ decide (m ≤ gapI a b) = good))
theorem told {a b : List S59} (hR : Rolls a b) (hl : a.length ≤ 5 ∧ b.length ≤ 5) (r : S25) (h0 : 0 ≤ r.f0 ∧ 0 ≤ r.f1 ∧ r.f0 ≤ a.length ∧ r.f1 ≤ b.length) : Told a b r (hasP a b r.f0 r.f1 && fitsW a b r) := by
 obtain ⟨L, f1, l1, n1, s1⟩ := heights_in hR hl 10 (by omega) r.f0 r.f1 0 32 h0.1 h0.2.1 h0.2.2.1 h0.2.2.2 (by omega) (by omega)
 have hp10 : 3 ^ 10 = 59049 := by decide
 refine ⟨L, 32, f1, ?_⟩
 cases hp : hasP a b r.f0 r.f1 with
 | false => rw [n1 hp]; exact .inl ⟨rfl, rfl⟩
 | true =>
  have hs := s1 hp
  have hpq := (hasP_iff a b _ _).1 hp
  have hin := rest_in a b hR (a.length + b.length) r.f0 r.f1 hpq.1 hpq.2 (by omega)
  have hne : L ≠ [] := fun e => by
   have := (hs (restI a b r.f0 r.f1)).2 ⟨hin.1, (way_iff hR hp).1 (Int.le_refl _)⟩
   rw [e] at this
   obtain ⟨x, hx, _⟩ := this
   cases hx
  obtain ⟨m, hm, hg⟩ := least_f L (by omega) hne
  refine .inr ⟨List.length_pos_iff.2 hne, m, _, hm, ?_⟩
  rw [Bool.true_and]
  unfold fitsW
  refine decide_eq_decide.2 ?_
  show m ≤ gapI a b ↔ restI a b r.f0 r.f1 ≤ gapI a b
  rw [hg, hs, way_iff hR hp]
  exact and_iff_right (gap_in hR).1
/-- The three pairs a move may lead to, in their order. -/
def cand3 (p : S25) (n : Nat) : S25 := match n with | 0 => ⟨p.f0 + 1, p.f1 + 1⟩ | 1 => ⟨p.f0 + 1, p.f1⟩ | _ => ⟨p.f0, p.f1 + 1⟩
/-- A step of the walk: it goes to the first of the three from which the gap's height is kept. -/
def Stp (a b : List S59) (p q : S25) : Prop := hasP a b p.f0 p.f1 = true ∧ ∃ n, n < 3 ∧ q = cand3 p n ∧ Told a b q true ∧ ∀ m, m < n → cand3 p m ≠ q ∧ Told a b (cand3 p m) false
theorem stp_of {a b : List S59} (hR : Rolls a b) (hl : a.length ≤ 5 ∧ b.length ≤ 5) {i k : Int} {q : S25} (hp : hasP a b i k = true) (hn : nextOf a b i k = some q) : Stp a b ⟨i, k⟩ q ∧ hasP a b q.f0 q.f1 = true := by
 obtain ⟨h1, h2⟩ := (hasP_iff a b i k).1 hp
 have hm : q ∈ movesOf a b i k := List.mem_of_find?_eq_some hn
 have hf : fitsW a b q = true := List.find?_some hn
 have hq := (moves_mem hm).1
 have hT : ∀ n, Told a b (cand3 ⟨i, k⟩ n) (hasP a b (cand3 ⟨i, k⟩ n).f0 (cand3 ⟨i, k⟩ n).f1 && fitsW a b (cand3 ⟨i, k⟩ n)) := fun n => told hR hl _ (by
  unfold cand3
  split <;> (dsimp only; omega))
 have key : (cand3 ⟨i, k⟩ 0 :: cand3 ⟨i, k⟩ 1 :: cand3 ⟨i, k⟩ 2 :: []).find? (fun r => hasP a b r.f0 r.f1 && fitsW a b r) = some q := by
  unfold nextOf movesOf movesTo cand at hn
  rw [List.find?_filter] at hn
  simp only [Bool.decide_and, Bool.decide_eq_true] at hn
  exact hn
 have cases3 : ∀ n, n < 3 → (∀ m, m < n → (hasP a b (cand3 ⟨i, k⟩ m).f0 (cand3 ⟨i, k⟩ m).f1 && fitsW a b (cand3 ⟨i, k⟩ m)) = false) → q = cand3 ⟨i, k⟩ n → Stp a b ⟨i, k⟩ q := fun n hn3 hno e => by
  refine ⟨hp, n, hn3, e, ?_, fun m hm => ?_⟩
  · have := hT n
    rw [← e, hq, hf] at this
    exact this
  · have h3 := hno m hm
    have h4 := hT m
    rw [h3] at h4
    refine ⟨fun e2 => ?_, h4⟩
    rw [e2, hq, hf] at h3
    cases h3
 refine ⟨?_, hq⟩
 rw [List.find?_cons] at key
 split at key
 · rename_i g0
   exact cases3 0 (by omega) (fun m hm => by omega) (Option.some.inj key).symm
 · rename_i g0
   rw [List.find?_cons] at key
   split at key
   · exact cases3 1 (by omega) (fun m hm => by obtain rfl : m = 0 := (by omega); simpa using g0) (Option.some.inj key).symm
   · rename_i g1
     rw [List.find?_cons] at key
     split at key
     · refine cases3 2 (by omega) (fun m hm => ?_) (Option.some.inj key).symm
       obtain rfl | rfl : m = 0 ∨ m = 1 := by omega
       · simpa using g0
       · simpa using g1
     · cases key
/-- Each step of a list. -/
def Steps (R : S25 → S25 → Prop) : List S25 → Prop
 | p :: q :: l => R p q ∧ Steps R (q :: l)
 | _ => True
theorem steps_at {R : S25 → S25 → Prop} : ∀ (l : List S25), Steps R l → ∀ j, j + 1 < l.length → R (l.getD j z25) (l.getD (j + 1) z25) := by
 intro l
 induction l with
 | nil => intro _ j hj; simp at hj
 | cons p l ih =>
  intro hs j hj
  cases l with
  | nil => simp at hj
  | cons q l =>
   cases j with
   | zero => exact hs.1
   | succ j => exact ih hs.2 j (by simpa using hj)
theorem walk_steps {a b : List S59} (hR : Rolls a b) (hl : a.length ≤ 5 ∧ b.length ≤ 5) : ∀ (n : Nat) (i k : Int), hasP a b i k = true → restI a b i k ≤ restI a b 0 0 → ((a.length : Int) - 1 - i) + ((b.length : Int) - 1 - k) ≤ n →
  Steps (Stp a b) (⟨i, k⟩ :: walkFrom a b n i k) ∧ (⟨i, k⟩ :: walkFrom a b n i k).getLast? = some ⟨(a.length : Int) - 1, (b.length : Int) - 1⟩ ∧ (walkFrom a b n i k).length ≤ n := by
 intro n
 induction n with
 | zero =>
  intro i k hp hg hn
  obtain ⟨h1, h2⟩ := (hasP_iff a b i k).1 hp
  obtain rfl : i = (a.length : Int) - 1 := by omega
  obtain rfl : k = (b.length : Int) - 1 := by omega
  exact ⟨trivial, rfl, Nat.le_refl _⟩
 | succ n ih =>
  intro i k hp hg hn
  obtain ⟨h1, h2⟩ := (hasP_iff a b i k).1 hp
  by_cases he : i = (a.length : Int) - 1 ∧ k = (b.length : Int) - 1
  · rw [walk_end he]
    obtain ⟨rfl, rfl⟩ := he
    exact ⟨trivial, rfl, Nat.zero_le _⟩
  · obtain ⟨q, hq, hm, hr⟩ := next_some a b hR i k h1 h2 he hg
    have e : walkFrom a b (n + 1) i k = q :: walkFrom a b n q.f0 q.f1 := by
     show (if _ then _ else match nextOf a b i k with | some q => q :: walkFrom a b n q.f0 q.f1 | none => []) = _
     rw [if_neg he, hq]
    obtain ⟨hs, hqp⟩ := stp_of hR hl hp hq
    have hlt : ((a.length : Int) - 1 - q.f0) + ((b.length : Int) - 1 - q.f1) ≤ n := by
     rcases (moves_mem hm).2 with e | e | e <;> rw [e] <;> dsimp only <;> omega
    obtain ⟨g1, g2, g3⟩ := ih q.f0 q.f1 hqp hr hlt
    rw [e]
    exact ⟨⟨hs, g1⟩, by rw [List.getLast?_cons_cons]; exact g2, by rw [List.length_cons]; omega⟩
structure WalkAll (a b : List S59) (W : List S25) : Prop where
 pos : 0 < W.length
 len : W.length ≤ 11
 first : rd_T25 W 0 = ⟨0, 0⟩
 last : rd_T25 W ((W.length : Int) - 1) = ⟨(a.length : Int) - 1, (b.length : Int) - 1⟩
 step : ∀ j : Nat, j + 1 < W.length → Stp a b (rd_T25 W (j : Int)) (rd_T25 W ((j : Int) + 1))
theorem walk_all {a b : List S59} (hR : Rolls a b) (hl : a.length ≤ 5 ∧ b.length ≤ 5) : WalkAll a b (walkOf a b) := by
 obtain ⟨h1, h2, h3⟩ := walk_steps hR hl (a.length + b.length) 0 0 (has0 hR) (Int.le_refl _) (by omega)
 refine ⟨by unfold walkOf; simp, by unfold walkOf; rw [List.length_cons]; omega, rfl, ?_, fun j hj => ?_⟩
 · have h4 : (walkOf a b).getLast? = some ⟨(a.length : Int) - 1, (b.length : Int) - 1⟩ := h2
   rw [List.getLast?_eq_getElem?] at h4
   unfold rd_T25
   rw [show (((walkOf a b).length : Int) - 1).toNat = (walkOf a b).length - 1 by omega, List.getD_eq_getElem?_getD, h4]
   rfl
 · have h4 := steps_at (walkOf a b) h1 j hj
   unfold rd_T25
   rw [Int.toNat_natCast, show ((j : Int) + 1).toNat = j + 1 by omega]
   exact h4

end Go.Proofs.Ytkocigldchiifaa.H

/- pianolalaw07.AlignFirst. -/
namespace Go.Proofs.Ytkocigldchiifaa.H
open Go.RowKit Go.Proofs.YtkocigldchiifaaW.PrintWords Go.Proofs.YtkocigldchiifaaW.PrintLast Go.Proofs.YtkocigldchiifaaW.PrintMore
open Go.Shelf Go.Proofs.Ytkocigldchiifaa.QA
set_option linter.unusedVariables false
set_option linter.unusedSimpArgs false

/-! Region 9 of function 9: 2 copies, made in any order. -/
/-- One of the copies: where it lies, and what it holds so far. -/
def Fst9Ch (W : World) (base : Nat) (al st : Bool) (x : Value) (g : Nat) (V : Array Value) : Prop :=
 al = true → x = .pointer (some ⟨g, 0, none⟩) ∧ base ≤ g ∧ W.heap[g]? = some (.cells (if st then V else #[.int .i64 0, .int .i64 0]) 25 (0, 0))
theorem Fst9Ch.below {W W' : World} {base g : Nat} {al st : Bool} {x : Value} {V : Array Value} (h : Fst9Ch W base al st x g V) (hb : Below W.heap.size W W') : Fst9Ch W' base al st x g V := fun ha => by
 obtain ⟨h1, h2, h3⟩ := h ha
 exact ⟨h1, h2, blk_below h3 hb⟩
theorem Fst9Ch.alloc {W : World} {base : Nat} {V : Array Value} (h : base ≤ W.heap.size) : Fst9Ch (W.alloc (.cells #[.int .i64 0, .int .i64 0] 25)) base true false (.pointer (some ⟨W.heap.size, 0, none⟩)) W.heap.size V := fun _ => ⟨rfl, h, blk_new W _⟩
theorem Fst9Ch.lt {W : World} {base : Nat} {x : Value} {al st : Bool} {g : Nat} {V : Array Value} (h : Fst9Ch W base al st x g V) (ha : al = true) : g < W.heap.size := blk_lt (h ha).2.2
theorem Fst9Ch.far {W W' : World} {base : Nat} {x : Value} {al st : Bool} {g q : Nat} {V : Array Value} (h : Fst9Ch W base al st x g V) (hk : ∀ k, k ≠ q → W'.heap[k]? = W.heap[k]?) (hne : al = true → g ≠ q) : Fst9Ch W' base al st x g V := fun ha => ⟨(h ha).1, (h ha).2.1, (hk _ (hne ha)).trans (h ha).2.2⟩
theorem fst9_stored (W : World) {g : Nat} {c0 c1 u0 u1 : Value} {t : TypeId} (h : W.heap[g]? = some (.cells #[c0, c1] t (0, 0))) : ((W.setCell ⟨g, 0, none⟩ u0).setCell ⟨g, 1, none⟩ u1).heap[g]? = some (.cells #[u0, u1] t (0, 0)) ∧ ∀ k, k ≠ g → ((W.setCell ⟨g, 0, none⟩ u0).setCell ⟨g, 1, none⟩ u1).heap[k]? = W.heap[k]? := by
 refine ⟨?_, fun k hk => ?_⟩
 · have h1 := blk_set h 0 u0
   have h2 := blk_set h1 1 u1
   simpa using h2
 · rw [Below.heap_setCell _ _ _ _ hk, Below.heap_setCell _ _ _ _ hk]
theorem fst9_store0 {X : Prop} {ops : Array Oper} {o : Oper} {a : Act} {Kc : Act → World → Prop} {Q : Exit → Act → World → Prop} {W : World} {g : Nat} {e0 e1 d0 d1 : Int} {p x : Operand} (hw : Region.wanted o (yielded ops a.tmps) = true) (hN : o.dst = none) (hop : o.op = .store 25 p x)
  (hp : a.eval p = .pointer (some ⟨g, 0, none⟩)) (hx : a.eval x = .agg #[.int .i64 d0, .int .i64 d1]) (hb : W.heap[g]? = some (.cells #[.int .i64 0, .int .i64 0] 25 (0, 0)))
  (h : Kc a ((W.setCell ⟨g, 0, none⟩ (.int .i64 d0)).setCell ⟨g, 1, none⟩ (.int .i64 d1))) : if Region.wanted o (yielded ops a.tmps) = true then Oper.wp Try.prog o a W Kc Q else X := by
 have key := store_step (P := Try.prog) (Q := Q) (Kc := Kc) (W := W) (a := a) (w1 := ((W.setCell ⟨g, 0, none⟩ (.int .i64 d0)).setCell ⟨g, 1, none⟩ (.int .i64 d1))) hw hN ?_ h
 · rw [if_pos hw] at key ⊢; exact key
 have c0 : W.cell? ⟨g, 0, none⟩ = some (.int .i64 0) := (blk_cell hb 0).trans rfl
 have f0 : W.frozen? ⟨g, 0, none⟩ = false := blk_frozen hb 0
 have hb0 := blk_set hb 0 (.int .i64 d0)
 have c1 : (W.setCell ⟨g, 0, none⟩ (.int .i64 d0)).cell? ⟨g, 1, none⟩ = some (.int .i64 0) := (blk_cell hb0 1).trans rfl
 have f1 : (W.setCell ⟨g, 0, none⟩ (.int .i64 d0)).frozen? ⟨g, 1, none⟩ = false := blk_frozen hb0 1
 clear h hb hb0
 have hu := Try.underlying25
 unfold execOp
 simp [hop, hp, hx]
 go_simp
theorem fst9_store1 {X : Prop} {ops : Array Oper} {o : Oper} {a : Act} {Kc : Act → World → Prop} {Q : Exit → Act → World → Prop} {W : World} {g : Nat} {e0 e1 d0 d1 : Int} {p x : Operand} (hw : Region.wanted o (yielded ops a.tmps) = true) (hN : o.dst = none) (hop : o.op = .store 25 p x)
  (hp : a.eval p = .pointer (some ⟨g, 0, none⟩)) (hx : a.eval x = .agg #[.int .i64 e0, .int .i64 e1]) (hb : W.heap[g]? = some (.cells #[.int .i64 0, .int .i64 0] 25 (0, 0)))
  (h : Kc a ((W.setCell ⟨g, 0, none⟩ (.int .i64 e0)).setCell ⟨g, 1, none⟩ (.int .i64 e1))) : if Region.wanted o (yielded ops a.tmps) = true then Oper.wp Try.prog o a W Kc Q else X := by
 have key := store_step (P := Try.prog) (Q := Q) (Kc := Kc) (W := W) (a := a) (w1 := ((W.setCell ⟨g, 0, none⟩ (.int .i64 e0)).setCell ⟨g, 1, none⟩ (.int .i64 e1))) hw hN ?_ h
 · rw [if_pos hw] at key ⊢; exact key
 have c0 : W.cell? ⟨g, 0, none⟩ = some (.int .i64 0) := (blk_cell hb 0).trans rfl
 have f0 : W.frozen? ⟨g, 0, none⟩ = false := blk_frozen hb 0
 have hb0 := blk_set hb 0 (.int .i64 e0)
 have c1 : (W.setCell ⟨g, 0, none⟩ (.int .i64 e0)).cell? ⟨g, 1, none⟩ = some (.int .i64 0) := (blk_cell hb0 1).trans rfl
 have f1 : (W.setCell ⟨g, 0, none⟩ (.int .i64 e0)).frozen? ⟨g, 1, none⟩ = false := blk_frozen hb0 1
 clear h hb hb0
 have hu := Try.underlying25
 unfold execOp
 simp [hop, hp, hx]
 go_simp
theorem fst9_alloc {X : Prop} {ops : Array Oper} {o : Oper} {a : Act} {Kc : Act → World → Prop} {Q : Exit → Act → World → Prop} {W : World} (n : Nat) (hw : Region.wanted o (yielded ops a.tmps) = true) (hN : o.dst = some n) (hop : o.op = .alloc 25)
  (h : Kc (a.put (some n) (.pointer (some ⟨W.heap.size, 0, none⟩))) (W.alloc (.cells #[.int .i64 0, .int .i64 0] 25))) : if Region.wanted o (yielded ops a.tmps) = true then Oper.wp Try.prog o a W Kc Q else X := by
 have hu := Try.underlying25
 have := event_step (P := Try.prog) (Q := Q) (Kc := Kc) (W := W) hw (o := o) (a := a) (w1 := W.alloc (.cells #[.int .i64 0, .int .i64 0] 25)) (v := .pointer (some ⟨W.heap.size, 0, none⟩)) (by
  unfold execOp
  simp [hop]
  go_simp
  try rfl) (by rw [hN]; exact h)
 rw [if_pos hw] at this ⊢
 exact this
theorem fst9_cases {i : Nat} {l : Array Bool} {b9 b10 b11 b12 : Bool} (hl : l = #[true, true, true, true, true, true, true, true, true, b9, b10, b11, b12]) (h : l.getD i true = false) : (i = 9 ∧ b9 = false) ∨ (i = 10 ∧ b10 = false) ∨ (i = 11 ∧ b11 = false) ∨ (i = 12 ∧ b12 = false) := by
 subst hl
 match i, h with
 | 0, h => cases h
 | 1, h => cases h
 | 2, h => cases h
 | 3, h => cases h
 | 4, h => cases h
 | 5, h => cases h
 | 6, h => cases h
 | 7, h => cases h
 | 8, h => cases h
 | 9, h => exact .inl ⟨rfl, h⟩
 | 10, h => exact .inr (.inl ⟨rfl, h⟩)
 | 11, h => exact .inr (.inr (.inl ⟨rfl, h⟩))
 | 12, h => exact .inr (.inr (.inr ⟨rfl, h⟩))
 | n + 13, h => simp at h
def Fst9 (A : Act) (W0 : World) (e0 e1 d0 d1 : Int) (l : Array Bool) (a : Act) (W : World) : Prop :=
 ∃ (b9 b10 b11 b12 : Bool) (x0 x1 : Value) (g0 g1 : Nat), l = #[true, true, true, true, true, true, true, true, true, b9, b10, b11, b12] ∧ a = putAll A [(12, x0), (13, x1)] ∧ Below W0.heap.size W0 W ∧ (Fst9Ch W W0.heap.size b9 b11 x0 g0 #[.int .i64 e0, .int .i64 e1] ∧ Fst9Ch W W0.heap.size b10 b12 x1 g1 #[.int .i64 d0, .int .i64 d1]) ∧ ((b9 = true → b10 = true → g0 ≠ g1)) ∧ ((b9 = false → b11 = false) ∧ (b10 = false → b12 = false))
set_option maxRecDepth 100000 in
theorem fst9 {Q : Exit → Act → World → Prop} {S : World → Prop} {ds : List Nat} (A : Act) (W0 : World) (e0 e1 d0 d1 : Int) (hA : A.tmps.size = 134) (h63 : A.eval (.tmp 63) = .agg #[.int .i64 e0, .int .i64 e1]) (h67 : A.eval (.tmp 67) = .agg #[.int .i64 d0, .int .i64 d1])
  (hS : ∀ W', Below W0.heap.size W0 W' → S W')
  (hend : ∀ (g0 g1 : Nat) (W' : World), Below W0.heap.size W0 W' → (W0.heap.size ≤ g0 ∧ W0.heap.size ≤ g1) → (g0 ≠ g1) → W'.heap[g0]? = some (.cells #[.int .i64 e0, .int .i64 e1] 25 (0, 0)) → W'.heap[g1]? = some (.cells #[.int .i64 d0, .int .i64 d1] 25 (0, 0)) → Q .normal (putAll A [(12, .pointer (some ⟨g0, 0, none⟩)), (13, .pointer (some ⟨g1, 0, none⟩))]) W') :
  wpAnyLast Try.prog .any (opsOf Try.f9 9) Q S ds 4 #[true, true, true, true, true, true, true, true, true, false, false, false, false] A W0 := by
 refine region_inv (Fst9 A W0 e0 e1 d0 d1) ?_ ?_ ?_ 4 _ _ _ ?_ (by decide)
 · rintro l a W i ⟨b9, b10, b11, b12, x0, x1, g0, g1, hl, rfl, hB, ⟨C0, C1⟩, D01, ⟨U0, U1⟩⟩ hi
   obtain ⟨hun, o, ho, hdep⟩ := mem_ready.1 hi
   clear hi
   have hB0 := hB.size
   rcases fst9_cases hl hun with ⟨rfl, rfl⟩ | ⟨rfl, rfl⟩ | ⟨rfl, rfl⟩ | ⟨rfl, rfl⟩
   · refine wpOp_step (o := o) ho fun K hK => ?_
     have hst : b11 = false := U0 rfl
     subst hst
     obtain ⟨o1, o2, o3⟩ := op_at ho (x := (.alloc 25, some 12, true)) (by kernel_rfl)
     refine fst9_alloc 12 (wanted_of o3 _) o2 o1 ?_
     refine hK _ _ ?_
     subst hl
     exact ⟨true, b10, false, b12, _, _, _, _, rfl, put2_1 _ _ _ _ (by decide), hB.alloc hB0 _, ⟨Fst9Ch.alloc hB0, C1.below (below_alloc (Below.refl _ _) _)⟩, (fun _ h => by have := C1.lt h; omega), ⟨(fun _ => rfl), U1⟩⟩
   · refine wpOp_step (o := o) ho fun K hK => ?_
     have hst : b12 = false := U1 rfl
     subst hst
     obtain ⟨o1, o2, o3⟩ := op_at ho (x := (.alloc 25, some 13, true)) (by kernel_rfl)
     refine fst9_alloc 13 (wanted_of o3 _) o2 o1 ?_
     refine hK _ _ ?_
     subst hl
     exact ⟨b9, true, b11, false, _, _, _, _, rfl, put2_2 _ _ _ _, hB.alloc hB0 _, ⟨C0.below (below_alloc (Below.refl _ _) _), Fst9Ch.alloc hB0⟩, (fun h _ => by have := C0.lt h; omega), ⟨U0, (fun _ => rfl)⟩⟩
   · refine wpOp_step (o := o) ho fun K hK => ?_
     obtain ⟨o1, o2, o3⟩ := op_at ho (x := (.store 25 (.tmp 12) (.tmp 63), none, true)) (by kernel_rfl)
     have hal : b9 = true := by
      have := dep_of (d := 9) ho (by kernel_rfl) hdep
      rw [hl] at this
      exact this
     subst hal
     have s1 := (C0 rfl).2.2
     have s2 := fst9_stored W (u0 := .int .i64 e0) (u1 := .int .i64 e1) s1
     refine fst9_store1 (e0 := e0) (e1 := e1) (d0 := d0) (d1 := d1) (g := g0) (wanted_of o3 _) o2 o1 ((eval2_1 _ _ _ (by decide) (by rw [hA]; decide)).trans (C0 rfl).1) ((eval2 _ _ _ 63 (by decide) (by decide)).trans h63) s1 ?_
     refine hK _ _ ?_
     subst hl
     exact ⟨true, b10, true, b12, x0, x1, g0, g1, rfl, rfl, below_set (below_set hB (C0 rfl).2.1) (C0 rfl).2.1, ⟨(fun _ => ⟨(C0 rfl).1, (C0 rfl).2.1, s2.1⟩), (C1.far s2.2 (fun h => (Ne.symm (D01 rfl h))))⟩, D01, ⟨(fun h => by cases h), U1⟩⟩
   · refine wpOp_step (o := o) ho fun K hK => ?_
     obtain ⟨o1, o2, o3⟩ := op_at ho (x := (.store 25 (.tmp 13) (.tmp 67), none, true)) (by kernel_rfl)
     have hal : b10 = true := by
      have := dep_of (d := 10) ho (by kernel_rfl) hdep
      rw [hl] at this
      exact this
     subst hal
     have s1 := (C1 rfl).2.2
     have s2 := fst9_stored W (u0 := .int .i64 d0) (u1 := .int .i64 d1) s1
     refine fst9_store0 (e0 := e0) (e1 := e1) (d0 := d0) (d1 := d1) (g := g1) (wanted_of o3 _) o2 o1 ((eval2_2 _ _ _ (by rw [hA]; decide)).trans (C1 rfl).1) ((eval2 _ _ _ 67 (by decide) (by decide)).trans h67) s1 ?_
     refine hK _ _ ?_
     subst hl
     exact ⟨b9, true, b11, true, x0, x1, g0, g1, rfl, rfl, below_set (below_set hB (C1 rfl).2.1) (C1 rfl).2.1, ⟨(C0.far s2.2 (fun h => D01 h rfl)), (fun _ => ⟨(C1 rfl).1, (C1 rfl).2.1, s2.1⟩)⟩, D01, ⟨U0, (fun h => by cases h)⟩⟩
 · rintro l a W ⟨b9, b10, b11, b12, x0, x1, g0, g1, hl, rfl, hB, ⟨C0, C1⟩, D01, ⟨U0, U1⟩⟩
   exact hS W hB
 · rintro l a W ⟨b9, b10, b11, b12, x0, x1, g0, g1, hl, rfl, hB, ⟨C0, C1⟩, D01, ⟨U0, U1⟩⟩ hr
   subst hl
   have key : ∀ c9 c10 c11 c12 : Bool, Region.ready .any (opsOf Try.f9 9) #[true, true, true, true, true, true, true, true, true, c9, c10, c11, c12] = [] → c9 = true ∧ c10 = true ∧ c11 = true ∧ c12 = true := by decide +kernel
   obtain ⟨rfl, rfl, rfl, rfl⟩ := key _ _ _ _ hr
   obtain ⟨rfl, p0, q0⟩ := C0 rfl
   obtain ⟨rfl, p1, q1⟩ := C1 rfl
   exact hend g0 g1 W hB ⟨p0, p1⟩ (D01 rfl rfl) q0 q1
 · refine ⟨false, false, false, false, A.eval (.tmp 12), A.eval (.tmp 13), 0, 0, rfl, ?_, Below.refl _ _, ⟨(fun h => by cases h), (fun h => by cases h)⟩, (fun h => by cases h), ⟨(fun _ => rfl), (fun _ => rfl)⟩⟩
   simp only [putAll, put_self]
def fst_T : Bool × List (List Nat × List Nat) := (true, [([], []), ([], []), ([1], [1]), ([0, 2], [0, 2]), ([3], [3]), ([], []), ([], []), ([5, 6], [5, 6]), ([7], [7]), ([], []), ([], []), ([9, 4, 0, 1, 2, 3, 4, 9, 10], [4, 9]), ([10, 8, 11, 0, 1, 2, 3, 4, 5, 6, 7, 8, 9, 10, 11], [8, 10])])
def fst_B : List Nat := [0, 0, 2, 7, 15, 0, 0, 96, 224, 0, 0, 1567, 4095]
theorem fst_tab : rtab .any (opsOf Try.f9 9) = fst_T := by kernel_rfl
theorem fst_bits : waitsOk fst_T.2 fst_B = true := by kernel_rfl

theorem cand_cells {W : World} {B : Nat} {e0 e1 : Int} (h : W.heap[B]? = some (.cells #[.int .i64 (e0 + 1), .int .i64 (e1 + 1), .int .i64 (e0 + 1), .int .i64 e1, .int .i64 e0, .int .i64 (e1 + 1)] 25 (0, 0))) (ad : Addr) (had : ad = ⟨B, 0, none⟩) (n : Nat) (hn : n < 3) :
  W.cell? (ad.add (n * 2)) = some (.int .i64 (cand3 ⟨e0, e1⟩ n).f0) ∧ W.cell? ⟨(ad.add (n * 2)).block, (ad.add (n * 2)).off + 1, none⟩ = some (.int .i64 (cand3 ⟨e0, e1⟩ n).f1) := by
 subst had
 obtain rfl | rfl | rfl : n = 0 ∨ n = 1 ∨ n = 2 := by omega
 · exact ⟨(blk_cell h 0).trans rfl, (blk_cell h 1).trans rfl⟩
 · exact ⟨(blk_cell h 2).trans rfl, (blk_cell h 3).trans rfl⟩
 · exact ⟨(blk_cell h 4).trans rfl, (blk_cell h 5).trans rfl⟩
attribute [local go_sem high] eqA25
set_option maxRecDepth 100000 in
set_option maxHeartbeats 2000000 in
theorem alignFirst_calls (A0 : Option Addr) (c0 : Nat) (l0 : List S59) (A1 : Option Addr) (c1 : Nat) (l1 : List S59) (w : World) (hC0 : Kd.C k111 w A0 l0.length l0) (hc0 : l0.length ≤ c0) (hb0 : ∀ x ∈ l0, Byte3 x) (hC1 : Kd.C k111 w A1 l1.length l1) (hc1 : l1.length ≤ c1) (hb1 : ∀ x ∈ l1, Byte3 x) :
  Calls Try.prog 9 #[.slice A0 l0.length c0, .slice A1 l1.length c1] w fun e w' => e = .returned (.bool true) ∧ Below w.heap.size w w' := by
  have hu25 := Try.underlying25
  have hu59 := Try.underlying59
  have H0 := Aside0.mk hC0
  have H1 := Aside0.mk hC1
  have HA0 := Aside0.mk (And.intro hc0 hb0)
  have HA1 := Aside0.mk (And.intro hc1 hb1)
  have HB := Aside0.mk (Below.refl w.heap.size w)
  have hlena := made_len l0
  have hlenb := made_len l1
  have HLL := Aside0.mk (And.intro hlena hlenb)
  have r01 := made_rolls hb0 hb1
  obtain ⟨W, hW⟩ : ∃ W, W = walkOf (madeF l0) (madeF l1) := ⟨_, rfl⟩
  obtain ⟨G, hG⟩ : ∃ G, G = gapI (madeF l0) (madeF l1) := ⟨_, rfl⟩
  have hF : align_Gap.f (madeF l0) (madeF l1) = some (G, 0) ∧ align_Walk.f (madeF l0) (madeF l1) = some (W, 0) := ⟨by rw [gap_f r01, hG], by unfold align_Walk.f; rw [check_ok r01, hW]; rfl⟩
  have HF := Aside0.mk hF
  have hWA : WalkAll (madeF l0) (madeF l1) W := by rw [hW]; exact walk_all r01 ⟨hlena.2, hlenb.2⟩
  have HWA := Aside0.mk hWA
  have HGG := Aside0.mk hG
  have hw0 : (W.length == 0) = false := beq_eq_false_iff_ne.2 (by have := hWA.pos; omega)
  have hw1 : ((W.length : Int) == 0) = false := beq_eq_false_iff_ne.2 (by have := hWA.pos; omega)
  clear hC0 hc0 hb0 hC1 hc1 hb1 hF r01 hlena hlenb hW hG hWA
  go_enter Try.func9, Try.ntmps9
  go_wp2_with fail
  refine (made_calls A0 c0 l0 _ H0.out HA0.out.1 HA0.out.2).mono ?_
  rintro e w1 ⟨v, rfl, hR, hb⟩
  have hbb := hb; clear hb
  have HB' := Aside0.mk (below_then HB.out HB.out.size hbb); clear HB; have HB := HB'; clear HB'
  have H0' := Aside0.mk (Kd.C_below H0.out hbb); clear H0; have H0 := H0'; clear H0'
  have H1' := Aside0.mk (Kd.C_below H1.out hbb); clear H1; have H1 := H1'; clear H1'
  clear hbb
  obtain ⟨Aa, ca, rfl, hca, hCa⟩ := Kd.R_reads hR
  clear hR
  have HCa := Aside0.mk hCa; clear hCa
  go_wp2_with fail
  refine (made_calls A1 c1 l1 _ H1.out HA1.out.1 HA1.out.2).mono ?_
  rintro e w2 ⟨v, rfl, hR, hb⟩
  have hbb := hb; clear hb
  have HB' := Aside0.mk (below_then HB.out HB.out.size hbb); clear HB; have HB := HB'; clear HB'
  have H0' := Aside0.mk (Kd.C_below H0.out hbb); clear H0; have H0 := H0'; clear H0'
  have H1' := Aside0.mk (Kd.C_below H1.out hbb); clear H1; have H1 := H1'; clear H1'
  have HCa' := Aside0.mk (Kd.C_below HCa.out hbb); clear HCa; have HCa := HCa'; clear HCa'
  clear hbb
  obtain ⟨Ab, cb, rfl, hcb, hCb⟩ := Kd.R_reads hR
  clear hR
  have HCb := Aside0.mk hCb; clear hCb
  go_wp2_with fail
  refine (align_Gap.calls Aa ca (madeF l0) Ab cb (madeF l1) G 0 _ HCa.out hca HCb.out hcb HF.out.1).mono ?_
  rintro e w3 ⟨rfl, hb⟩
  have hbb := hb; clear hb
  have HB' := Aside0.mk (below_then HB.out HB.out.size hbb); clear HB; have HB := HB'; clear HB'
  have H0' := Aside0.mk (Kd.C_below H0.out hbb); clear H0; have H0 := H0'; clear H0'
  have H1' := Aside0.mk (Kd.C_below H1.out hbb); clear H1; have H1 := H1'; clear H1'
  have HCa' := Aside0.mk (Kd.C_below HCa.out hbb); clear HCa; have HCa := HCa'; clear HCa'
  have HCb' := Aside0.mk (Kd.C_below HCb.out hbb); clear HCb; have HCb := HCb'; clear HCb'
  clear hbb
  go_wp2_with fail
  refine (align_Walk.calls Aa ca (madeF l0) Ab cb (madeF l1) W 0 _ HCa.out hca HCb.out hcb HF.out.2).mono ?_
  rintro e w4 ⟨v, rfl, hR, hb⟩
  have hbb := hb; clear hb
  have HB' := Aside0.mk (below_then HB.out HB.out.size hbb); clear HB; have HB := HB'; clear HB'
  have H0' := Aside0.mk (Kd.C_below H0.out hbb); clear H0; have H0 := H0'; clear H0'
  have H1' := Aside0.mk (Kd.C_below H1.out hbb); clear H1; have H1 := H1'; clear H1'
  have HCa' := Aside0.mk (Kd.C_below HCa.out hbb); clear HCa; have HCa := HCa'; clear HCa'
  have HCb' := Aside0.mk (Kd.C_below HCb.out hbb); clear HCb; have HCb := HCb'; clear HCb'
  clear hbb
  obtain ⟨Aw, cw, rfl, hcw, hCw⟩ := Kd.R_reads hR
  clear hR
  have HCw := Aside0.mk hCw; clear hCw
  obtain ⟨adw, had, x0, x1⟩ := at_T25 HCw.out 0 (by omega) (by have := HWA.out.pos; omega)
  cases had
  rw [HWA.out.first] at x0 x1
  have hpos : 0 < W.length := HWA.out.pos
  have had0 : adw.add ((0 : Int).toNat * 2) = adw := by cases adw; rfl
  rw [had0] at x0 x1
  go_wp2
  go_loopw [11] (fun s11 wr => ∃ j : Nat, 1 ≤ j ∧ j ≤ W.length ∧ s11 = .int .i64 j ∧ Aside0 (Below w4.heap.size w4 wr)) (fun s11 _ => W.length - (intOf s11).toNat)
  case atStart => exact ⟨1, Nat.le_refl _, hpos, rfl, ⟨Below.refl _ _⟩⟩
  case round =>
   obtain ⟨j, hj1, hj, rfl, HB6⟩ := hrel
   by_cases hlt : j < W.length
   · have hd : decide ((j : Int) < (W.length : Int)) = true := decide_eq_true (Int.ofNat_lt.2 hlt)
     obtain ⟨j', hj'⟩ : ∃ j', j = j' + 1 := ⟨j - 1, by omega⟩
     have HJ := Aside0.mk (And.intro hj1 (And.intro hlt hj'))
     have HJW := Aside0.mk (show wrap64 ((j : Int) + 1) = (j : Int) + 1 from wrap_small _ (by omega) (by have := HWA.out.len; omega))
     have HJM := Aside0.mk (show W.length - (intOf (.int .i64 ((j : Int) + 1))).toNat < W.length - (intOf (.int .i64 (j : Int))).toNat by show W.length - ((j : Int) + 1).toNat < W.length - ((j : Int)).toNat; omega)
     have hS : Stp (madeF l0) (madeF l1) (rd_T25 W (j' : Int)) (rd_T25 W (j : Int)) := by
      have := HWA.out.step j' (by omega)
      rw [show (j' : Int) + 1 = (j : Int) by omega] at this
      exact this
     have hjj : wrap64 ((j : Int) - 1) = (j' : Int) := by rw [wrap_small _ (by omega) (by have := HWA.out.len; omega)]; omega
     have hj2 : j' < W.length := by omega
     have hCC := Kd.C_below HCw.out HB6.out
     obtain ⟨_, had, p0, p1⟩ := at_T25 hCC (j' : Int) (by omega) (by omega)
     cases had
     obtain ⟨_, had, q0, q1⟩ := at_T25 hCC (j : Int) (by omega) (by omega)
     cases had
     rw [Int.toNat_natCast] at p0 p1 q0 q1
     clear hCC x0 x1
     generalize rd_T25 W (j' : Int) = p at p0 p1 hS
     generalize rd_T25 W (j : Int) = q at q0 q1 hS
     have HS := Aside0.mk hS
     clear hS hj' hj1
     obtain ⟨e0, e1⟩ := p
     obtain ⟨d0, d1⟩ := q
     dsimp only at p0 p1 q0 q1
     go_upto_region 9 with fail
     have hHS := And.intro p0 (And.intro p1 (And.intro q0 q1))
     have HS0 := Aside0.mk hHS
     clear p0 p1 q0 q1 hHS
     refine start_ (n := 13) (S := fun w' => w'.cell? (adw.add (j' * 2)) = some (.int .i64 e0) ∧ w'.cell? ⟨(adw.add (j' * 2)).block, (adw.add (j' * 2)).off + 1, none⟩ = some (.int .i64 e1) ∧ w'.cell? (adw.add (j * 2)) = some (.int .i64 d0) ∧ w'.cell? ⟨(adw.add (j * 2)).block, (adw.add (j * 2)).off + 1, none⟩ = some (.int .i64 d1)) (ds := []) #[false, false, false, false, false, false, false, false, false, false, false, false, false] (by kernel_rfl) rfl rfl HS0.out (fun hHeld => ?_)
     refine with_tabW fst_tab fst_bits (fun HT_ HW_ => ?_)
     refine pure_ (i := 0) (N := some 59) (v := ?_) (a' := ?_) #[true, false, false, false, false, false, false, false, false, false, false, false, false] rfl rfl (any_of HT_.out (by kernel_rfl)) (fun _ _ _ h => h) (Or.inl ⟨by rfl, ?_⟩) ?_ ?_
     rotate_left
     · intro w'
       go_simp
       with_reducible rfl
     rotate_left
     · simp only [Act.put, List.setIfInBounds_toArray, List.set_cons_zero, List.set_cons_succ, i64_w, i32_w]
       rfl
     refine pure_ (i := 1) (N := some 60) (v := ?_) (a' := ?_) #[true, true, false, false, false, false, false, false, false, false, false, false, false] rfl rfl (any_of HT_.out (by kernel_rfl)) (fun _ _ _ h => h) (Or.inl ⟨by rfl, ?_⟩) ?_ ?_
     rotate_left
     · intro w'
       go_simp
       with_reducible rfl
     rotate_left
     · simp only [Act.put, List.setIfInBounds_toArray, List.set_cons_zero, List.set_cons_succ, i64_w, i32_w]
       rfl
     refine pure_ (i := 2) (N := some 61) (v := ?_) (a' := ?_) #[true, true, true, false, false, false, false, false, false, false, false, false, false] rfl rfl (any_of HT_.out (by kernel_rfl)) (fun _ _ _ h => h) (Or.inl ⟨by rfl, ?_⟩) ?_ ?_
     rotate_left
     · intro w'
       go_simp
       with_reducible rfl
     rotate_left
     · simp only [Act.put, List.setIfInBounds_toArray, List.set_cons_zero, List.set_cons_succ, i64_w, i32_w]
       rfl
     refine pure_ (i := 3) (N := some 62) (v := ?_) (a' := ?_) #[true, true, true, true, false, false, false, false, false, false, false, false, false] rfl rfl (any_of HT_.out (by kernel_rfl)) (fun _ _ _ h => h) (Or.inl ⟨by rfl, ?_⟩) ?_ ?_
     rotate_left
     · intro w'
       go_simp
       with_reducible rfl
     rotate_left
     · simp only [Act.put, List.setIfInBounds_toArray, List.set_cons_zero, List.set_cons_succ, i64_w, i32_w]
       rfl
     refine take_ (i := 4) (N := some 63) (v := ?_) (a' := ?_) #[true, true, true, true, true, false, false, false, false, false, false, false, false] rfl rfl (take_ofW HT_.out HW_.out (by kernel_rfl)) (fun _ _ _ h => h) (Or.inl ⟨by rfl, ?_⟩) hHeld ?_ ?_
     rotate_left
     · rintro w' ⟨s0, s1, s2, s3⟩
       go_simp
       with_reducible rfl
     rotate_left
     · simp only [Act.put, List.setIfInBounds_toArray, List.set_cons_zero, List.set_cons_succ, i64_w, i32_w]
       rfl
     refine pure_ (i := 5) (N := some 64) (v := ?_) (a' := ?_) #[true, true, true, true, true, true, false, false, false, false, false, false, false] rfl rfl (any_of HT_.out (by kernel_rfl)) (fun _ _ _ h => h) (Or.inl ⟨by rfl, ?_⟩) ?_ ?_
     rotate_left
     · intro w'
       go_simp
       with_reducible rfl
     rotate_left
     · simp only [Act.put, List.setIfInBounds_toArray, List.set_cons_zero, List.set_cons_succ, i64_w, i32_w]
       rfl
     refine pure_ (i := 6) (N := some 65) (v := ?_) (a' := ?_) #[true, true, true, true, true, true, true, false, false, false, false, false, false] rfl rfl (any_of HT_.out (by kernel_rfl)) (fun _ _ _ h => h) (Or.inl ⟨by rfl, ?_⟩) ?_ ?_
     rotate_left
     · intro w'
       go_simp
       with_reducible rfl
     rotate_left
     · simp only [Act.put, List.setIfInBounds_toArray, List.set_cons_zero, List.set_cons_succ, i64_w, i32_w]
       rfl
     refine pure_ (i := 7) (N := some 66) (v := ?_) (a' := ?_) #[true, true, true, true, true, true, true, true, false, false, false, false, false] rfl rfl (any_of HT_.out (by kernel_rfl)) (fun _ _ _ h => h) (Or.inl ⟨by rfl, ?_⟩) ?_ ?_
     rotate_left
     · intro w'
       go_simp
       with_reducible rfl
     rotate_left
     · simp only [Act.put, List.setIfInBounds_toArray, List.set_cons_zero, List.set_cons_succ, i64_w, i32_w]
       rfl
     refine take_ (i := 8) (N := some 67) (v := ?_) (a' := ?_) #[true, true, true, true, true, true, true, true, true, false, false, false, false] rfl rfl (take_ofW HT_.out HW_.out (by kernel_rfl)) (fun _ _ _ h => h) (Or.inl ⟨by rfl, ?_⟩) hHeld ?_ ?_
     rotate_left
     · rintro w' ⟨s0, s1, s2, s3⟩
       go_simp
       with_reducible rfl
     rotate_left
     · simp only [Act.put, List.setIfInBounds_toArray, List.set_cons_zero, List.set_cons_succ, i64_w, i32_w]
       rfl
     refine fst9 _ _ e0 e1 d0 d1 rfl rfl rfl (fun W' hb => ⟨pw_cell_below hb HS0.out.1, pw_cell_below hb HS0.out.2.1, pw_cell_below hb HS0.out.2.2.1, pw_cell_below hb HS0.out.2.2.2⟩) ?_
     intro g0 g1 wC hb hge hne b0 b1
     clear HT_ HW_ hHeld HS0 hjj
     have HB7 := Aside0.mk (below_then HB6.out HB6.out.size (below_then (below_drew1 (Below.refl wr.heap.size wr)) (by simp) hb))
     have B0 := Aside0.mk b0
     have B1 := Aside0.mk b1
     clear hb hge hne b0 b1
     simp only [putAll, Act.put, List.setIfInBounds_toArray, List.set_cons_zero, List.set_cons_succ]
     have q0 : wC.cell? ⟨g0, 0, none⟩ = some (.int .i64 e0) := (blk_cell B0.out 0).trans rfl
     have q1 : wC.cell? ⟨g0, 1, none⟩ = some (.int .i64 e1) := (blk_cell B0.out 1).trans rfl
     have hpq := (hasP_iff (madeF l0) (madeF l1) e0 e1).1 HS.out.1
     have hll := HLL.out
     have u1 : wrap64 (e0 + 1) = e0 + 1 := wrap_small _ (by omega) (by omega)
     have u2 : wrap64 (e1 + 1) = e1 + 1 := wrap_small _ (by omega) (by omega)
     have HPQ := Aside0.mk hpq
     clear hpq hll
     go_wp2
     clear q0 q1 u1 u2
     have hbL := below_alloc (Below.refl wC.heap.size wC) (.cells #[.int .i64 (e0 + 1), .int .i64 (e1 + 1), .int .i64 (e0 + 1), .int .i64 e1, .int .i64 e0, .int .i64 (e1 + 1)] 25)
     have hbk := blk_new wC (.cells #[.int .i64 (e0 + 1), .int .i64 (e1 + 1), .int .i64 (e0 + 1), .int .i64 e1, .int .i64 e0, .int .i64 (e1 + 1)] 25)
     have HB8 := Aside0.mk (below_then HB7.out HB7.out.size hbL)
     have B0' := Aside0.mk (blk_below B0.out hbL); clear B0; have B0 := B0'; clear B0'
     have B1' := Aside0.mk (blk_below B1.out hbL); clear B1; have B1 := B1'; clear B1'
     obtain ⟨adL, hadL⟩ : ∃ ad : Addr, (⟨wC.heap.size, 0, none⟩ : Addr) = ad := ⟨_, rfl⟩
     have HCL := Aside0.mk (cand_cells hbk adL hadL.symm)
     have HLT := Aside0.mk (show adL.block < (wC.alloc (.cells #[.int .i64 (e0 + 1), .int .i64 (e1 + 1), .int .i64 (e0 + 1), .int .i64 e1, .int .i64 e0, .int .i64 (e1 + 1)] 25)).heap.size by rw [← hadL]; simp)
     rw [hadL]
     clear hbL hbk hadL
     generalize (wC.alloc (.cells #[.int .i64 (e0 + 1), .int .i64 (e1 + 1), .int .i64 (e0 + 1), .int .i64 e1, .int .i64 e0, .int .i64 (e1 + 1)] 25)) = w5 at HB8 B0 B1 HCL HLT ⊢
     obtain ⟨-, N, hN3, hqN, hTq, hTm⟩ := HS.out
     have HTQ := Aside0.mk hTq
     have HTM := Aside0.mk hTm
     have HQN := Aside0.mk hqN
     clear hTq hTm hqN HS
     go_loopw [14, 89] (fun s14 s89 wr => ∃ n : Nat, n ≤ N ∧ s14 = .bool false ∧ s89 = .int .i64 n ∧ Aside0 (Below w5.heap.size w5 wr)) (fun _ s89 _ => 3 - (intOf s89).toNat)
     case atStart => exact ⟨0, Nat.zero_le _, rfl, rfl, ⟨Below.refl _ _⟩⟩
     case round =>
      rename World => w6
      obtain ⟨n, hnN, rfl, rfl, HB9⟩ := hrel
      have hn3 : n < 3 := by omega
      have hd3 : decide ((n : Int) < 3) = true := decide_eq_true (by omega)
      obtain ⟨c0', c1'⟩ := HCL.out n hn3
      replace c0' := pw_cell_below HB9.out c0'
      replace c1' := pw_cell_below HB9.out c1'
      obtain ⟨r, hr⟩ : ∃ r, cand3 ⟨e0, e1⟩ n = r := ⟨_, rfl⟩
      rw [hr] at c0' c1'
      have HRR := Aside0.mk hr
      have HNN := Aside0.mk (And.intro hnN hn3)
      clear hr hnN
      obtain ⟨z, hT, hz, hzN⟩ : ∃ z : Bool, Told (madeF l0) (madeF l1) r z ∧ (r.f0 == d0 && r.f1 == d1) = z ∧ Aside0 (z = true ↔ n = N) := by
       have hqN := HQN.out
       by_cases hh : n = N
       · refine ⟨true, ?_, ?_, ⟨by simp [hh]⟩⟩
         · rw [← HRR.out, hh, ← hqN]; exact HTQ.out
         · rw [← HRR.out, hh, ← hqN]; simp
       · have := HTM.out n (by have := HNN.out; omega)
         rw [HRR.out] at this
         refine ⟨false, this.2, ?_, ⟨by simp [hh]⟩⟩
         have h3 := this.1
         obtain ⟨r0, r1⟩ := r
         simp only [ne_eq, S25.mk.injEq] at h3
         rw [Bool.eq_false_iff]
         intro h4
         rw [Bool.and_eq_true, beq_iff_eq, beq_iff_eq] at h4
         exact h3 h4
      obtain ⟨L, k, hL, hcase⟩ := hT.out
      rw [← HGG.out] at hcase
      have HL := Aside0.mk hL
      have hb6 := below_alloc (Below.refl w6.heap.size w6) (.cells #[.int .i64 r.f0, .int .i64 r.f1] 25)
      have hbk := blk_new w6 (.cells #[.int .i64 r.f0, .int .i64 r.f1] 25)
      have HB10 := Aside0.mk (below_then HB9.out HB9.out.size hb6)
      have HB11 := Aside0.mk (below_then HB8.out HB8.out.size HB10.out)
      have B2 := Aside0.mk hbk
      have B3 := Aside0.mk (blk_below B1.out HB10.out)
      clear hb6 hbk hL hT
      obtain ⟨r0, r1⟩ := r
      dsimp only at c0' c1' HB10 HB11 B2 HL hz
      rcases hcase with ⟨hl0, rfl⟩ | ⟨hl0, m, k', hm, hmz⟩
      · have hl1 : decide (0 < (L.length : Int)) = false := decide_eq_false (by omega)
        have hl2 : decide (0 < L.length) = false := decide_eq_false (by omega)
        go_wp2_with fail
        refine (pianolalaw07_heights.calls k Aa ca (madeF l0) Ab cb (madeF l1) r0 r1 0 L _ (Kd.C_below HCa.out HB11.out) hca (Kd.C_below HCb.out HB11.out) hcb HL.out).mono ?_
        rintro e w7 ⟨v, rfl, hR, hb⟩
        obtain ⟨AL, cL, rfl, hcL, hCL⟩ := Kd.R_reads hR
        have HCL2 := Aside0.mk hCL
        have HB12 := Aside0.mk (below_then HB11.out HB11.out.size hb)
        have HB13 := Aside0.mk (below_then HB10.out HB10.out.size hb)
        have B2' := Aside0.mk (blk_below B2.out hb); clear B2; have B2 := B2'; clear B2'
        have B3' := Aside0.mk (blk_below B3.out hb); clear B3; have B3 := B3'; clear B3'
        clear hR hb hCL
        have q0 : w7.cell? ⟨w6.heap.size, 0, none⟩ = some (.int .i64 r0) := (blk_cell B2.out 0).trans rfl
        have q1 : w7.cell? ⟨w6.heap.size, 1, none⟩ = some (.int .i64 r1) := (blk_cell B2.out 1).trans rfl
        have q2 : w7.cell? ⟨g1, 0, none⟩ = some (.int .i64 d0) := (blk_cell B3.out 0).trans rfl
        have q3 : w7.cell? ⟨g1, 1, none⟩ = some (.int .i64 d1) := (blk_cell B3.out 1).trans rfl
        clear hl0
        go_wp2
        refine ⟨⟨n + 1, ?_, rfl, rfl, ⟨HB13.out⟩⟩, ?_⟩
        · have h1 := HNN.out
          have h2 := hzN.out
          have h3 : n ≠ N := fun h => by cases h2.2 h
          omega
        · show 3 - ((n : Int) + 1).toNat < 3 - ((n : Int)).toNat
          omega
      · have hl1 : decide (0 < (L.length : Int)) = true := decide_eq_true (by omega)
        have hl2 : decide (0 < L.length) = true := decide_eq_true (by omega)
        have HM := Aside0.mk hm
        clear hm
        go_wp2_with fail
        refine (pianolalaw07_heights.calls k Aa ca (madeF l0) Ab cb (madeF l1) r0 r1 0 L _ (Kd.C_below HCa.out HB11.out) hca (Kd.C_below HCb.out HB11.out) hcb HL.out).mono ?_
        rintro e w7 ⟨v, rfl, hR, hb⟩
        obtain ⟨AL, cL, rfl, hcL, hCL⟩ := Kd.R_reads hR
        have HCL2 := Aside0.mk hCL
        have HB12 := Aside0.mk (below_then HB11.out HB11.out.size hb)
        have HB13 := Aside0.mk (below_then HB10.out HB10.out.size hb)
        have B2' := Aside0.mk (blk_below B2.out hb); clear B2; have B2 := B2'; clear B2'
        have B3' := Aside0.mk (blk_below B3.out hb); clear B3; have B3 := B3'; clear B3'
        clear hR hb hCL
        go_wp2_with fail
        refine (pianolalaw07_least.calls k' AL cL L m _ HCL2.out hcL HM.out).mono ?_
        rintro e w8 ⟨rfl, hb⟩
        have HB13' := Aside0.mk (below_then HB13.out HB13.out.size hb); clear HB13; have HB13 := HB13'; clear HB13'
        have HB12' := Aside0.mk (below_then HB12.out HB12.out.size hb); clear HB12; have HB12 := HB12'; clear HB12'
        have B2' := Aside0.mk (blk_below B2.out hb); clear B2; have B2 := B2'; clear B2'
        have B3' := Aside0.mk (blk_below B3.out hb); clear B3; have B3 := B3'; clear B3'
        clear hb hl0
        have q0 : w8.cell? ⟨w6.heap.size, 0, none⟩ = some (.int .i64 r0) := (blk_cell B2.out 0).trans rfl
        have q1 : w8.cell? ⟨w6.heap.size, 1, none⟩ = some (.int .i64 r1) := (blk_cell B2.out 1).trans rfl
        have q2 : w8.cell? ⟨g1, 0, none⟩ = some (.int .i64 d0) := (blk_cell B3.out 0).trans rfl
        have q3 : w8.cell? ⟨g1, 1, none⟩ = some (.int .i64 d1) := (blk_cell B3.out 1).trans rfl
        cases z with
        | false =>
         go_wp2
         refine ⟨⟨n + 1, ?_, rfl, rfl, ⟨HB13.out⟩⟩, ?_⟩
         · have h1 := HNN.out
           have h2 := hzN.out
           have h3 : n ≠ N := fun h => by cases h2.2 h
           omega
         · show 3 - ((n : Int) + 1).toNat < 3 - ((n : Int)).toNat
           omega
        | true =>
         clear c0' c1'
         go_wp2
         rw [HJW.out]
         refine ⟨⟨j + 1, Nat.le_add_left 1 j, HJ.out.2.1, rfl, ⟨HB12.out⟩⟩, HJM.out⟩
   · have hd : decide ((j : Int) < (W.length : Int)) = false := decide_eq_false (fun h => hlt (Int.ofNat_lt.1 h))
     obtain rfl : j = W.length := Nat.le_antisymm hj (Nat.le_of_not_lt hlt)
     obtain ⟨t, ht⟩ : ∃ t : Nat, (t : Int) = (W.length : Int) - 1 := ⟨W.length - 1, by omega⟩
     obtain ⟨ua, hua⟩ : ∃ t : Nat, (t : Int) = ((madeF l0).length : Int) - 1 := ⟨(madeF l0).length - 1, by have := HLL.out; omega⟩
     obtain ⟨ub, hub⟩ : ∃ t : Nat, (t : Int) = ((madeF l1).length : Int) - 1 := ⟨(madeF l1).length - 1, by have := HLL.out; omega⟩
     have hl1 := HLL.out
     have hl2 := HWA.out.len
     have htl : t < W.length := by omega
     obtain ⟨_, had, p0, p1⟩ := at_T25 (Kd.C_below HCw.out HB6.out) (t : Int) (by omega) (by omega)
     cases had
     rw [ht, HWA.out.last, ← hua, ← hub, ← ht, Int.toNat_natCast] at p0 p1
     have ew : wrap64 ((W.length : Int) - 1) = (t : Int) := (wrap_small _ (by omega) (by omega)).trans ht.symm
     have ea : Aside0 (wrap64 (((madeF l0).length : Int) - 1) = (ua : Int)) := ⟨(wrap_small _ (by clear ew; omega) (by clear ew; omega)).trans hua.symm⟩
     have eb : wrap64 (((madeF l1).length : Int) - 1) = (ub : Int) := (wrap_small _ (by clear ew; omega) (by clear ew; omega)).trans hub.symm
     have ea := ea.out
     clear hl1 hl2 ht hua hub x0 x1 hj hj1 hlt
     have hbb := HB6.out
     have HB' := Aside0.mk (below_then HB.out HB.out.size hbb); clear HB; have HB := HB'; clear HB'
     clear hbb
     go_wp2_with fail
     refine (works_calls _).mono ?_
     rintro e w5 ⟨rfl, hb⟩
     have HB' := Aside0.mk (below_then HB.out HB.out.size hb); clear HB; have HB := HB'; clear HB'
     clear hb
     go_wp2
     go_ret
     exact ⟨rfl, HB.out⟩

end Go.Proofs.Ytkocigldchiifaa.H
