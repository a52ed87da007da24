/- Texts T4, P8 of this chapter, one behind the other. -/
import Derived.Laws.IdiomArrays
import Derived.Lib.SmallJoins
import Derived.Maps.AppendAt
import Derived.OpenShut
import Derived.Test.YtkocigldchiifaaXB
import Derived.Test.YtkocigldchiifaaXG

/- Rows of events of one's own: appended to, stored into. -/
namespace Go.Proofs.Ytkocigldchiifaa.H
open Go.RowKit Go.Proofs.YtkocigldchiifaaW.PrintWords Go.Proofs.YtkocigldchiifaaW.PrintLast Go.Proofs.YtkocigldchiifaaW.PrintMore
open Go.Shelf Go.Proofs.Ytkocigldchiifaa.QA
set_option linter.unusedVariables false
set_option linter.unusedSimpArgs false

def cellsE (xs : List S59) : List Value := xs.flatMap fun x => [.int .i64 x.f0, .int .i64 x.f1, .int .i64 x.f2]
theorem cellsE_len (xs : List S59) : (cellsE xs).length = xs.length * 3 := by
 induction xs with
 | nil => rfl
 | cons x xs ih => simp [cellsE] at ih ⊢; omega
theorem cellsE_append (xs ys : List S59) : cellsE (xs ++ ys) = cellsE xs ++ cellsE ys := by simp [cellsE]
theorem cellsE_one (xs : List S59) : ∀ u ∈ cellsE xs, u.oneCell' = true := by
 intro u hu
 obtain ⟨x, _, hx⟩ := List.mem_flatMap.1 hu
 simp only [List.mem_cons, List.not_mem_nil, or_false] at hx
 rcases hx with rfl | rfl | rfl <;> rfl
/-- An own row of events. -/
def OwnE (W : World) (base : Nat) (v : Value) (xs : List S59) : Prop := W.ownsRow base 59 3 v xs.length (cellsE xs)
theorem reps_E (w : World) (base : Nat) (ok : Nat → Prop) (xs : List S59) : Reps (k59.M w base ok) 3 xs (cellsE xs) := by
 have h : ∀ (ys zs : List S59), Reps (k59.M w base ok) 3 ys (cellsE ys) → Reps (k59.M w base ok) 3 (ys ++ zs) (cellsE (ys ++ zs)) := fun ys zs => by
  induction zs generalizing ys with
  | nil => intro h; simpa using h
  | cons z zs ih =>
   intro h
   have := ih (ys ++ [z]) (by
    have h2 := h.snoc (p := z) (c := [.int .i64 z.f0, .int .i64 z.f1, .int .i64 z.f2]) (k59_mkM w base ok z) rfl
    simpa [cellsE] using h2)
   simpa using this
 simpa using h [] xs (Reps.none _ _)
theorem OwnE.R {W : World} {base : Nat} {v : Value} {xs : List S59} (h : OwnE W base v xs) : Kd.R k59 59 W base (fun _ => True) v xs := ⟨fun _ _ => trivial, cellsE xs, h, reps_E _ _ _ xs⟩
theorem OwnE.reads {W : World} {base : Nat} {v : Value} {xs : List S59} (h : OwnE W base v xs) : ∃ A c, v = .slice A xs.length c ∧ xs.length ≤ c ∧ Kd.C k59 W A xs.length xs := Kd.R_reads h.R
theorem OwnE.below {W W' : World} {base : Nat} {v : Value} {xs : List S59} (h : OwnE W base v xs) (hb : Below W.heap.size W W') : OwnE W' base v xs := by
 obtain ⟨h1, h2⟩ := h
 refine ⟨h1, ?_⟩
 rcases h2 with h2 | ⟨g, cap, cur, h3, h4, h5, h6⟩
 · exact .inl h2
 · exact .inr ⟨g, cap, cur, h3, h4, (hb.block g (Array.getElem?_eq_some_iff.1 h5).1).trans h5, h6⟩
end Go.Proofs.Ytkocigldchiifaa.H

/- Rolls in the opposite order: the gap and the number of walks stay. -/
namespace Go.Proofs.Ytkocigldchiifaa.H
open Go.RowKit Go.Proofs.YtkocigldchiifaaW.PrintWords Go.Proofs.YtkocigldchiifaaW.PrintLast Go.Proofs.YtkocigldchiifaaW.PrintMore
open Go.Shelf Go.Proofs.Ytkocigldchiifaa.QA
set_option linter.unusedVariables false
set_option linter.unusedSimpArgs false

theorem rd_rev (a : List S59) (i : Int) (hi : 0 ≤ i ∧ i < a.length) : rd_T59 a.reverse ((a.length : Int) - 1 - i) = rd_T59 a i := by
 unfold rd_T59
 rw [List.getD_eq_getElem?_getD, List.getD_eq_getElem?_getD, List.getElem?_reverse (by omega)]
 congr 2
 omega
theorem dist_rev {a b : List S59} {i k : Int} (h : hasP a b i k = true) : dist a.reverse b.reverse ((a.length : Int) - 1 - i) ((b.length : Int) - 1 - k) = dist a b i k := by
 obtain ⟨h1, h2⟩ := (hasP_iff a b i k).1 h
 unfold dist
 rw [rd_rev a i h1, rd_rev b k h2]
theorem has_rev {a b : List S59} {i k : Int} : hasP a.reverse b.reverse ((a.length : Int) - 1 - i) ((b.length : Int) - 1 - k) = true ↔ hasP a b i k = true := by
 rw [hasP_iff, hasP_iff, List.length_reverse, List.length_reverse]
 constructor <;> (rintro ⟨h1, h2⟩; exact ⟨by omega, by omega⟩)
theorem Rolls.rev {a b : List S59} (h : Rolls a b) : Rolls a.reverse b.reverse :=
 ⟨by rw [List.length_reverse]; exact h.ha, by rw [List.length_reverse]; exact h.hb, fun x hx => h.ga x (List.mem_reverse.1 hx), fun x hx => h.gb x (List.mem_reverse.1 hx)⟩
/-! ### There is a walk just if the number of walks isn't 0. -/
/-! ### Few events: no limit is reached. -/
/-! ### Sums over all pairs. -/
def sm (f : Int → Int) : Nat → Int
 | 0 => 0
 | n + 1 => sm f n + f n
theorem sm_congr {f g : Int → Int} (n : Nat) (h : ∀ i : Int, 0 ≤ i → i < n → f i = g i) : sm f n = sm g n := by
 induction n with
 | zero => rfl
 | succ n ih =>
  show sm f n + f n = sm g n + g n
  rw [ih (fun i h1 h2 => h i h1 (by omega)), h n (by omega) (by omega)]
theorem sm_add (f g : Int → Int) (n : Nat) : sm (fun i => f i + g i) n = sm f n + sm g n := by
 induction n with
 | zero => rfl
 | succ n ih => show sm _ n + (f n + g n) = (sm f n + f n) + (sm g n + g n); rw [ih]; omega
theorem sm_zero (n : Nat) : sm (fun _ => 0) n = 0 := by
 induction n with
 | zero => rfl
 | succ n ih => show sm _ n + 0 = 0; rw [ih]; rfl
theorem sm_shift (u : Int → Int) (n : Nat) : sm (fun i => u (i + 1)) n + u 0 = sm u n + u n := by
 induction n with
 | zero => show 0 + u 0 = 0 + u ((0 : Nat) : Int); rfl
 | succ n ih =>
  show sm _ n + u ((n : Int) + 1) + u 0 = sm u n + u n + u ((n + 1 : Nat) : Int)
  have : ((n + 1 : Nat) : Int) = (n : Int) + 1 := by omega
  rw [this]
  omega
theorem sm_at (u : Int → Int) (n : Nat) (j : Nat) (hj : j < n) (h : ∀ i : Int, i ≠ j → u i = 0) : sm u n = u j := by
 induction n with
 | zero => omega
 | succ n ih =>
  show sm u n + u n = u j
  by_cases e : j = n
  · have : sm u n = sm (fun _ => 0) n := sm_congr n (fun i h1 h2 => h i (by omega))
    rw [this, sm_zero, e]
    omega
  · rw [ih (by omega), h n (by omega)]
    omega
/-- What a shift leaves. -/
theorem sm2_shift (u : Int → Int → Int) (n m : Nat) (h0 : ∀ k, u 0 k = 0) (h1 : ∀ k, u n k = 0) : sm (fun i => sm (fun k => u (i + 1) k) m) n = sm (fun i => sm (fun k => u i k) m) n := by
 have h := sm_shift (fun i => sm (fun k => u i k) m) n
 have e0 : sm (fun k => u 0 k) m = 0 := by rw [sm_congr m (g := fun _ => 0) (fun k _ _ => h0 k), sm_zero]
 have e1 : sm (fun k => u n k) m = 0 := by rw [sm_congr m (g := fun _ => 0) (fun k _ _ => h1 k), sm_zero]
 have h' : sm (fun i => sm (fun k => u (i + 1) k) m) n + sm (fun k => u 0 k) m = sm (fun i => sm (fun k => u i k) m) n + sm (fun k => u n k) m := h
 rw [e0, e1] at h'
 omega
theorem sm2_shift' (u : Int → Int → Int) (n m : Nat) (h0 : ∀ i, u i 0 = 0) (h1 : ∀ i, u i m = 0) : sm (fun i => sm (fun k => u i (k + 1)) m) n = sm (fun i => sm (fun k => u i k) m) n :=
 sm_congr n fun i _ _ => by
  have h := sm_shift (fun k => u i k) m
  have h' : sm (fun k => u i (k + 1)) m + u i 0 = sm (fun k => u i k) m + u i m := h
  rw [h0, h1] at h'
  omega
theorem sm2_add (f g : Int → Int → Int) (n m : Nat) : sm (fun i => sm (fun k => f i k + g i k) m) n = sm (fun i => sm (fun k => f i k) m) n + sm (fun i => sm (fun k => g i k) m) n := by
 rw [← sm_add]
 exact sm_congr n fun i _ _ => sm_add _ _ m
theorem sm2_congr {f g : Int → Int → Int} (n m : Nat) (h : ∀ i k : Int, 0 ≤ i → i < n → 0 ≤ k → k < m → f i k = g i k) : sm (fun i => sm (fun k => f i k) m) n = sm (fun i => sm (fun k => g i k) m) n :=
 sm_congr n fun i h1 h2 => sm_congr m fun k h3 h4 => h i k h1 h2 h3 h4
/-- Counted forwards and backwards. -/
theorem count_two (F B : Int → Int → Int) (ok : Int → Int → Prop) (n m : Nat) (hn : 0 < n) (hm : 0 < m)
  (F0 : ∀ i k : Int, ¬ ((0 ≤ i ∧ i < n) ∧ (0 ≤ k ∧ k < m)) → F i k = 0) (B0 : ∀ i k : Int, ¬ ((0 ≤ i ∧ i < n) ∧ (0 ≤ k ∧ k < m)) → B i k = 0)
  (hF : ∀ i k : Int, 0 ≤ i → i < n → 0 ≤ k → k < m → (ok i k ∧ F i k = (if i = 0 ∧ k = 0 then 1 else 0) + F (i - 1) (k - 1) + F (i - 1) k + F i (k - 1)) ∨ (¬ ok i k ∧ F i k = 0))
  (hB : ∀ i k : Int, 0 ≤ i → i < n → 0 ≤ k → k < m → (ok i k ∧ B i k = (if i = (n : Int) - 1 ∧ k = (m : Int) - 1 then 1 else 0) + B (i + 1) (k + 1) + B (i + 1) k + B i (k + 1)) ∨ (¬ ok i k ∧ B i k = 0)) :
  F ((n : Int) - 1) ((m : Int) - 1) = B 0 0 := by
 have e1 : sm (fun i => sm (fun k => F i k * B i k) m) n = sm (fun i => sm (fun k => ((F i k * (if i = (n : Int) - 1 ∧ k = (m : Int) - 1 then 1 else 0) + F i k * B (i + 1) (k + 1)) + F i k * B (i + 1) k) + F i k * B i (k + 1)) m) n :=
  sm2_congr n m fun i k h1 h2 h3 h4 => by
   rcases hB i k h1 h2 h3 h4 with ⟨_, e⟩ | ⟨hno, e⟩
   · rw [e, Int.mul_add, Int.mul_add, Int.mul_add]
   · rcases hF i k h1 h2 h3 h4 with ⟨ho, _⟩ | ⟨_, e2⟩
     · exact absurd ho hno
     · rw [e2]; simp
 have e2 : sm (fun i => sm (fun k => F i k * B i k) m) n = sm (fun i => sm (fun k => (((if i = 0 ∧ k = 0 then 1 else 0) * B i k + F (i - 1) (k - 1) * B i k) + F (i - 1) k * B i k) + F i (k - 1) * B i k) m) n :=
  sm2_congr n m fun i k h1 h2 h3 h4 => by
   rcases hF i k h1 h2 h3 h4 with ⟨_, e⟩ | ⟨hno, e⟩
   · rw [e, Int.add_mul, Int.add_mul, Int.add_mul]
   · rcases hB i k h1 h2 h3 h4 with ⟨ho, _⟩ | ⟨_, e2⟩
     · exact absurd ho hno
     · rw [e2]; simp
 rw [sm2_add, sm2_add, sm2_add] at e1 e2
 -- one edge at a time
 have s1 : sm (fun i => sm (fun k => F i k * B (i + 1) (k + 1)) m) n = sm (fun i => sm (fun k => F (i - 1) (k - 1) * B i k) m) n := by
  have h1 := sm2_shift (fun i k => F (i - 1) (k - 1) * B i k) n m (fun k => by show F (0 - 1) _ * _ = 0; rw [F0 _ _ (by omega)]; simp) (fun k => by show _ * B n k = 0; rw [B0 _ _ (by omega)]; simp)
  have h2 := sm2_shift' (fun i k => F (i + 1 - 1) (k - 1) * B (i + 1) k) n m (fun i => by show F _ (0 - 1) * _ = 0; rw [F0 _ _ (by omega)]; simp) (fun i => by show _ * B _ m = 0; rw [B0 _ _ (by omega)]; simp)
  rw [← h1, ← h2]
  exact sm2_congr n m fun i k _ _ _ _ => by show _ = F (i + 1 - 1) (k + 1 - 1) * B (i + 1) (k + 1); rw [show i + 1 - 1 = i by omega, show k + 1 - 1 = k by omega]
 have s2 : sm (fun i => sm (fun k => F i k * B (i + 1) k) m) n = sm (fun i => sm (fun k => F (i - 1) k * B i k) m) n := by
  have h1 := sm2_shift (fun i k => F (i - 1) k * B i k) n m (fun k => by show F (0 - 1) _ * _ = 0; rw [F0 _ _ (by omega)]; simp) (fun k => by show _ * B n k = 0; rw [B0 _ _ (by omega)]; simp)
  rw [← h1]
  exact sm2_congr n m fun i k _ _ _ _ => by show _ = F (i + 1 - 1) k * B (i + 1) k; rw [show i + 1 - 1 = i by omega]
 have s3 : sm (fun i => sm (fun k => F i k * B i (k + 1)) m) n = sm (fun i => sm (fun k => F i (k - 1) * B i k) m) n := by
  have h2 := sm2_shift' (fun i k => F i (k - 1) * B i k) n m (fun i => by show F _ (0 - 1) * _ = 0; rw [F0 _ _ (by omega)]; simp) (fun i => by show _ * B _ m = 0; rw [B0 _ _ (by omega)]; simp)
  rw [← h2]
  exact sm2_congr n m fun i k _ _ _ _ => by show _ = F i (k + 1 - 1) * B i (k + 1); rw [show k + 1 - 1 = k by omega]
 have t1 : sm (fun i => sm (fun k => F i k * (if i = (n : Int) - 1 ∧ k = (m : Int) - 1 then 1 else 0)) m) n = F ((n : Int) - 1) ((m : Int) - 1) := by
  have en : ((n - 1 : Nat) : Int) = (n : Int) - 1 := by omega
  have em : ((m - 1 : Nat) : Int) = (m : Int) - 1 := by omega
  rw [sm_at _ n (n - 1) (by omega) (fun i hi => by
   rw [sm_congr m (g := fun _ => 0) (fun k _ _ => by rw [if_neg (by omega)]; simp), sm_zero])]
  rw [sm_at _ m (m - 1) (by omega) (fun k hk => by rw [if_neg (by omega)]; simp)]
  rw [en, em, if_pos ⟨rfl, rfl⟩, Int.mul_one]
 have t2 : sm (fun i => sm (fun k => (if i = 0 ∧ k = 0 then 1 else 0) * B i k) m) n = B 0 0 := by
  rw [sm_at _ n 0 (by omega) (fun i hi => by
   rw [sm_congr m (g := fun _ => 0) (fun k _ _ => by rw [if_neg (by omega)]; simp), sm_zero])]
  rw [sm_at _ m 0 (by omega) (fun k hk => by rw [if_neg (by omega)]; simp)]
  rw [if_pos ⟨rfl, rfl⟩, Int.one_mul]
  rfl
 rw [t1, s1, s2, s3] at e1
 rw [t2] at e2
 omega
end Go.Proofs.Ytkocigldchiifaa.H
