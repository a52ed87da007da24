/- Texts T4, T6, P8, T8 of this chapter, one behind the other. -/
import Derived.Maps.AppendAt
import Derived.Test.YtkocigldchiifaaXB
import Derived.Test.YtkocigldchiifaaXC
import Derived.Test.YtkocigldchiifaaXF
import Derived.Test.YtkocigldchiifaaXG

/- Rows of events of one's own: appended to, stored into. -/
namespace Go.Proofs.Ytkocigldchiifaa.H
open Go.RowKit Go.Proofs.YtkocigldchiifaaW.PrintWords Go.Proofs.YtkocigldchiifaaW.PrintLast Go.Proofs.YtkocigldchiifaaW.PrintMore
open Go.Shelf Go.Proofs.Ytkocigldchiifaa.QA
set_option linter.unusedVariables false
set_option linter.unusedSimpArgs false

def cellsE (xs : List S59) : List Value := xs.flatMap fun x => [.int .i64 x.f0, .int .i64 x.f1, .int .i64 x.f2]
theorem cellsE_len (xs : List S59) : (cellsE xs).length = xs.length * 3 := by
 induction xs with
 | nil => rfl
 | cons x xs ih => simp [cellsE] at ih ⊢; omega
theorem cellsE_append (xs ys : List S59) : cellsE (xs ++ ys) = cellsE xs ++ cellsE ys := by simp [cellsE]
theorem cellsE_one (xs : List S59) : ∀ u ∈ cellsE xs, u.oneCell' = true := by
 intro u hu
 obtain ⟨x, _, hx⟩ := List.mem_flatMap.1 hu
 simp only [List.mem_cons, List.not_mem_nil, or_false] at hx
 rcases hx with rfl | rfl | rfl <;> rfl
/-- An own row of events. -/
def OwnE (W : World) (base : Nat) (v : Value) (xs : List S59) : Prop := W.ownsRow base 59 3 v xs.length (cellsE xs)
theorem reps_E (w : World) (base : Nat) (ok : Nat → Prop) (xs : List S59) : Reps (k59.M w base ok) 3 xs (cellsE xs) := by
 have h : ∀ (ys zs : List S59), Reps (k59.M w base ok) 3 ys (cellsE ys) → Reps (k59.M w base ok) 3 (ys ++ zs) (cellsE (ys ++ zs)) := fun ys zs => by
  induction zs generalizing ys with
  | nil => intro h; simpa using h
  | cons z zs ih =>
   intro h
   have := ih (ys ++ [z]) (by
    have h2 := h.snoc (p := z) (c := [.int .i64 z.f0, .int .i64 z.f1, .int .i64 z.f2]) (k59_mkM w base ok z) rfl
    simpa [cellsE] using h2)
   simpa using this
 simpa using h [] xs (Reps.none _ _)
theorem OwnE.R {W : World} {base : Nat} {v : Value} {xs : List S59} (h : OwnE W base v xs) : Kd.R k59 59 W base (fun _ => True) v xs := ⟨fun _ _ => trivial, cellsE xs, h, reps_E _ _ _ xs⟩
theorem OwnE.reads {W : World} {base : Nat} {v : Value} {xs : List S59} (h : OwnE W base v xs) : ∃ A c, v = .slice A xs.length c ∧ xs.length ≤ c ∧ Kd.C k59 W A xs.length xs := Kd.R_reads h.R
theorem OwnE.below {W W' : World} {base : Nat} {v : Value} {xs : List S59} (h : OwnE W base v xs) (hb : Below W.heap.size W W') : OwnE W' base v xs := by
 obtain ⟨h1, h2⟩ := h
 refine ⟨h1, ?_⟩
 rcases h2 with h2 | ⟨g, cap, cur, h3, h4, h5, h6⟩
 · exact .inl h2
 · exact .inr ⟨g, cap, cur, h3, h4, (hb.block g (Array.getElem?_eq_some_iff.1 h5).1).trans h5, h6⟩
/-- Events are appended. -/
theorem wpList_append_E {ops : Array Oper} {rest : List Oper} {o : Oper} {a : Act} {Q : Exit → Act → World → Prop} {W : World} (hgd : o.guard = none) (s x : Operand)
  (ho : o.op = .call { callee := .builtin .append, args := #[s, x], argTypes := #[23, 23] }) (base : Nat) (v : Value) (xs ys : List S59) (hs : a.eval s = v) (hv : OwnE W base v xs) (ad : Addr) (m c : Nat) (hx : a.eval x = .slice (some ad) m c) (hm : m = ys.length)
  (hc : ∀ j u, (cellsE ys)[j]? = some u → W.cell? (ad.add j) = some u) (hl : xs.length + m ≤ 1000000) (hb : base ≤ W.heap.size)
  (h : ∀ v' w', OwnE w' base v' (xs ++ ys) → Below base W w' → W.grownBy w' v.ownBlock → wpList Try.prog ops Q rest (a.put o.dst v') w') : wpList Try.prog ops Q (o :: rest) a W := by
 obtain ⟨i0, hi, hz0, hz1, hz2⟩ := info_parts info59
 have hM : maxLen = 9223372036854775807 := rfl
 refine wpList_append_own_at _ hgd s x 23 ho base 59 i0 (.agg #[(.int .i64 0), (.int .i64 0), (.int .i64 0)]) 3 24 Try.underlying23 hi hz0 hz1 hz2 rfl (by decide) v xs.length (cellsE xs) hs hv ad m c (cellsE ys) hx (by rw [cellsE_len, hm]) hc (cellsE_one ys) (by omega) (by omega) hb ?_
 intro v' w' h1 h2 h3 h4
 refine h v' w' ?_ ((Below.refl _ _).grown h2 hb (fun j ej => own_base hv j ej)) h2
 unfold OwnE
 rw [cellsE_append, List.length_append, ← hm]
 exact h1

end Go.Proofs.Ytkocigldchiifaa.H

/- pianolalaw07.AlignRepeated. -/
namespace Go.Proofs.Ytkocigldchiifaa.H
open Go.RowKit Go.Proofs.YtkocigldchiifaaW.PrintWords Go.Proofs.YtkocigldchiifaaW.PrintLast Go.Proofs.YtkocigldchiifaaW.PrintMore
open Go.Shelf Go.Proofs.Ytkocigldchiifaa.QA
set_option linter.unusedVariables false
set_option linter.unusedSimpArgs false

theorem wrap_small (x : Int) (h0 : 0 ≤ x) (h1 : x ≤ 1000000) : wrap64 x = x := by unfold wrap64; omega
end Go.Proofs.Ytkocigldchiifaa.H

/- Rolls in the opposite order: the gap and the number of walks stay. -/
namespace Go.Proofs.Ytkocigldchiifaa.H
open Go.RowKit Go.Proofs.YtkocigldchiifaaW.PrintWords Go.Proofs.YtkocigldchiifaaW.PrintLast Go.Proofs.YtkocigldchiifaaW.PrintMore
open Go.Shelf Go.Proofs.Ytkocigldchiifaa.QA
set_option linter.unusedVariables false
set_option linter.unusedSimpArgs false

theorem rd_rev (a : List S59) (i : Int) (hi : 0 ≤ i ∧ i < a.length) : rd_T59 a.reverse ((a.length : Int) - 1 - i) = rd_T59 a i := by
 unfold rd_T59
 rw [List.getD_eq_getElem?_getD, List.getD_eq_getElem?_getD, List.getElem?_reverse (by omega)]
 congr 2
 omega
theorem dist_rev {a b : List S59} {i k : Int} (h : hasP a b i k = true) : dist a.reverse b.reverse ((a.length : Int) - 1 - i) ((b.length : Int) - 1 - k) = dist a b i k := by
 obtain ⟨h1, h2⟩ := (hasP_iff a b i k).1 h
 unfold dist
 rw [rd_rev a i h1, rd_rev b k h2]
theorem has_rev {a b : List S59} {i k : Int} : hasP a.reverse b.reverse ((a.length : Int) - 1 - i) ((b.length : Int) - 1 - k) = true ↔ hasP a b i k = true := by
 rw [hasP_iff, hasP_iff, List.length_reverse, List.length_reverse]
 constructor <;> (rintro ⟨h1, h2⟩; exact ⟨by omega, by omega⟩)
theorem Rolls.rev {a b : List S59} (h : Rolls a b) : Rolls a.reverse b.reverse :=
 ⟨by rw [List.length_reverse]; exact h.ha, by rw [List.length_reverse]; exact h.hb, fun x hx => h.ga x (List.mem_reverse.1 hx), fun x hx => h.gb x (List.mem_reverse.1 hx)⟩
/-- The rest of a walk, put behind what leads there backwards. -/
theorem way_back {a b : List S59} {h : Int} {i k : Int} (hw : Way a b h i k) : Way a.reverse b.reverse h ((a.length : Int) - 1 - i) ((b.length : Int) - 1 - k) → Way a.reverse b.reverse h 0 0 := by
 induction hw with
 | last i k e1 e2 hp hd =>
  intro hr
  rw [e1, e2] at hr
  simpa using hr
 | step i k q hp hd hq hw ih =>
  intro hr
  refine ih (.step _ _ ⟨(a.length : Int) - 1 - i, (b.length : Int) - 1 - k⟩ (has_rev.2 (moves_mem hq).1) (by rw [dist_rev (moves_mem hq).1]; exact hw.has.2) (mem_moves.2 ⟨hr.has.1, ?_⟩) hr)
  rcases (moves_mem hq).2 with e | e | e
  · rw [e]; left; simp only [S25.mk.injEq, and_true, true_and]; omega
  · rw [e]; right; left; simp only [S25.mk.injEq, and_true, true_and]; omega
  · rw [e]; right; right; simp only [S25.mk.injEq, and_true, true_and]; omega
theorem way_rev {a b : List S59} {h : Int} (hw : Way a b h 0 0) : Way a.reverse b.reverse h 0 0 := by
 refine way_back hw (.last _ _ (by simp) (by simp) (has_rev.2 hw.has.1) ?_)
 rw [dist_rev hw.has.1]
 exact hw.has.2
theorem gap_rev {a b : List S59} (hR : Rolls a b) : gapI a.reverse b.reverse = gapI a b := eq_of_le fun n => by
 rw [gap_iff hR.rev, gap_iff hR]
 refine ⟨fun hw => ?_, way_rev⟩
 have := way_rev hw
 simpa using this
/-! ### There is a walk just if the number of walks isn't 0. -/
theorem cnt_way {a b : List S59} {h : Int} {i k : Int} (hw : Way a b h i k) : 0 < cntI a b h i k := by
 induction hw with
 | last i k e1 e2 hp hd =>
  obtain ⟨h1, h2⟩ := (hasP_iff a b i k).1 hp
  have hd' : ¬ h < farD (rd_T59 a i) (rd_T59 b k) := Int.not_lt.2 hd
  rw [cnt_eq a b h i k h1 h2, if_neg hd', if_pos ⟨e1, e2⟩]
  have := (foldl_add_in (fun q : S25 => cntI a b h q.f0 q.f1) 4503599627370496 (movesOf a b i k) 0 (by omega) (fun q hq => cnt_in' a b h (moves_mem hq).1)).1
  have e : ∀ (l : List S25) (f : S25 → Int) (x : Int), l.foldl (fun m q => m + f q) (x + 1) = l.foldl (fun m q => m + f q) x + 1 := fun l f => by
   induction l with
   | nil => intro x; rfl
   | cons y l ih => intro x; rw [List.foldl_cons, List.foldl_cons, ← ih]; congr 1; omega
  rw [show (1 : Int) = 0 + 1 by rfl, e]
  omega
 | step i k q hp hd hq hw ih =>
  obtain ⟨h1, h2⟩ := (hasP_iff a b i k).1 hp
  have hd' : ¬ h < farD (rd_T59 a i) (rd_T59 b k) := Int.not_lt.2 hd
  rw [cnt_eq a b h i k h1 h2, if_neg hd']
  have e : ∀ (l : List S25) (x : Int), 0 ≤ x → q ∈ l → (∀ q ∈ l, q ∈ movesOf a b i k) → cntI a b h q.f0 q.f1 ≤ l.foldl (fun m q => m + cntI a b h q.f0 q.f1) x := fun l => by
   induction l with
   | nil => intro x _ hq; cases hq
   | cons y l ih2 =>
    intro x hx hq hall
    have hy := cnt_in' a b h (moves_mem (hall y List.mem_cons_self)).1
    rw [List.foldl_cons]
    rcases List.mem_cons.1 hq with rfl | hq
    · have := (foldl_add_in (fun q : S25 => cntI a b h q.f0 q.f1) 4503599627370496 l (x + cntI a b h q.f0 q.f1) (by omega) (fun r hr => cnt_in' a b h (moves_mem (hall r (List.mem_cons_of_mem _ hr))).1)).1
      have e2 : ∀ (l : List S25) (x : Int), (∀ q ∈ l, q ∈ movesOf a b i k) → x ≤ l.foldl (fun m q => m + cntI a b h q.f0 q.f1) x := fun l => by
       induction l with
       | nil => intro x _; exact Int.le_refl _
       | cons z l ih3 =>
        intro x hz
        have h5 := cnt_in' a b h (moves_mem (hz z List.mem_cons_self)).1
        have h6 := ih3 (x + cntI a b h z.f0 z.f1) (fun q hq => hz q (List.mem_cons_of_mem _ hq))
        rw [List.foldl_cons]
        omega
      have := e2 l (x + cntI a b h q.f0 q.f1) (fun q hq => hall q (List.mem_cons_of_mem _ hq))
      omega
    · exact ih2 _ (by omega) hq (fun q hq => hall q (List.mem_cons_of_mem _ hq))
  have := e (movesOf a b i k) (if i = (a.length : Int) - 1 ∧ k = (b.length : Int) - 1 then 1 else 0) (by split <;> omega) hq (fun _ h => h)
  omega
theorem way_cnt (a b : List S59) (h : Int) : ∀ (n : Nat) (i k : Int), hasP a b i k = true → ((a.length : Int) - i) + ((b.length : Int) - k) ≤ n → 0 < cntI a b h i k → Way a b h i k := by
 intro n
 induction n with
 | zero => intro i k hp hn _; have := (hasP_iff a b i k).1 hp; omega
 | succ n ih =>
  intro i k hp hn hc
  obtain ⟨h1, h2⟩ := (hasP_iff a b i k).1 hp
  rw [cnt_eq a b h i k h1 h2] at hc
  by_cases hd : h < farD (rd_T59 a i) (rd_T59 b k)
  · rw [if_pos hd] at hc; omega
  · rw [if_neg hd] at hc
    have hd' : dist a b i k ≤ h := Int.not_lt.1 hd
    by_cases hl : i = (a.length : Int) - 1 ∧ k = (b.length : Int) - 1
    · exact .last i k hl.1 hl.2 hp hd'
    · rw [if_neg hl] at hc
      obtain ⟨q, hq, hqc⟩ : ∃ q ∈ movesOf a b i k, 0 < cntI a b h q.f0 q.f1 := by
       by_cases hex : ∃ q ∈ movesOf a b i k, 0 < cntI a b h q.f0 q.f1
       · exact hex
       · exfalso
         have e : ∀ (l : List S25), (∀ q ∈ l, q ∈ movesOf a b i k) → l.foldl (fun m q => m + cntI a b h q.f0 q.f1) 0 = 0 := fun l => by
          induction l with
          | nil => intro _; rfl
          | cons y l ih2 =>
           intro hall
           have h3 : ¬ 0 < cntI a b h y.f0 y.f1 := fun h3 => hex ⟨y, hall y List.mem_cons_self, h3⟩
           have h4 := (cnt_in' a b h (moves_mem (hall y List.mem_cons_self)).1).1
           rw [List.foldl_cons, show (0 : Int) + cntI a b h y.f0 y.f1 = 0 by omega]
           exact ih2 (fun q hq => hall q (List.mem_cons_of_mem _ hq))
         rw [e _ (fun _ h => h)] at hc
         omega
      refine .step i k q hp hd' hq (ih q.f0 q.f1 (moves_mem hq).1 ?_ hqc)
      rcases (moves_mem hq).2 with e | e | e <;> rw [e] <;> dsimp only <;> omega
theorem cnt_iff {a b : List S59} {h i k : Int} (hp : hasP a b i k = true) : 0 < cntI a b h i k ↔ Way a b h i k :=
 ⟨way_cnt a b h (((a.length : Int) - i) + ((b.length : Int) - k)).toNat i k hp (by have := (hasP_iff a b i k).1 hp; omega), cnt_way⟩
/-! ### Few events: no limit is reached. -/
theorem cnt_pow (a b : List S59) (h : Int) : ∀ (n : Nat) (i k : Int), hasP a b i k = true → ((a.length : Int) - 1 - i) + ((b.length : Int) - 1 - k) ≤ n → cntI a b h i k ≤ (3 : Int) ^ n := by
 intro n
 induction n with
 | zero =>
  intro i k hp hn
  obtain ⟨h1, h2⟩ := (hasP_iff a b i k).1 hp
  rw [cnt_eq a b h i k h1 h2]
  have e : movesOf a b i k = [] := by
   rw [moves_eq a b i k h1 h2, if_neg (by omega), if_neg (by omega), if_neg (by omega)]; rfl
  rw [e]
  split
  · omega
  · rw [if_pos (by omega)]; show min 1 _ ≤ (3 : Int) ^ 0; omega
 | succ n ih =>
  intro i k hp hn
  obtain ⟨h1, h2⟩ := (hasP_iff a b i k).1 hp
  have hpos : (0 : Int) < 3 ^ n := Int.pow_pos (by omega)
  rw [cnt_eq a b h i k h1 h2, Int.pow_succ]
  split
  · omega
  · have hlen : (movesOf a b i k).length ≤ 3 := by rw [moves_eq a b i k h1 h2]; split <;> split <;> split <;> simp
    by_cases hl : i = (a.length : Int) - 1 ∧ k = (b.length : Int) - 1
    · have e : movesOf a b i k = [] := by
       rw [moves_eq a b i k h1 h2, if_neg (by omega), if_neg (by omega), if_neg (by omega)]; rfl
      rw [e, if_pos hl]
      show min 1 _ ≤ _
      omega
    · rw [if_neg hl]
      have := (foldl_add_in (fun q : S25 => cntI a b h q.f0 q.f1) (3 ^ n) (movesOf a b i k) 0 (by omega) (fun q hq => ⟨(cnt_in' a b h (moves_mem hq).1).1, ih q.f0 q.f1 (moves_mem hq).1 (by
       rcases (moves_mem hq).2 with e | e | e <;> rw [e] <;> dsimp only <;> omega)⟩)).2
      have h3 : ((movesOf a b i k).length : Int) * 3 ^ n ≤ 3 * 3 ^ n := Int.mul_le_mul_of_nonneg_right (by omega) (by omega)
      omega
/-- The number of walks, 0 where there is no pair. -/
def cX (a b : List S59) (h i k : Int) : Int := if hasP a b i k = true then cntI a b h i k else 0
theorem cX_eq {a b : List S59} (h : Int) (hl : a.length ≤ 5 ∧ b.length ≤ 5) {i k : Int} (hp : hasP a b i k = true) :
  cX a b h i k = if h < dist a b i k then 0 else (if i = (a.length : Int) - 1 ∧ k = (b.length : Int) - 1 then 1 else 0) + cX a b h (i + 1) (k + 1) + cX a b h (i + 1) k + cX a b h i (k + 1) := by
 obtain ⟨h1, h2⟩ := (hasP_iff a b i k).1 hp
 have hb := cnt_pow a b h 8 i k hp (by omega)
 have hb' : ∀ q : S25, hasP a b q.f0 q.f1 = true → cntI a b h q.f0 q.f1 ≤ 6561 := fun q hq => cnt_pow a b h 8 _ _ hq (by have := (hasP_iff a b _ _).1 hq; omega)
 show (if hasP a b i k = true then cntI a b h i k else 0) = _
 rw [if_pos hp, cnt_eq a b h i k h1 h2]
 show (if h < dist a b i k then _ else _) = _
 by_cases hd : h < dist a b i k
 · rw [if_pos hd, if_pos hd]
 · rw [if_neg hd, if_neg hd]
   have e1 : hasP a b (i + 1) (k + 1) = true ↔ (i + 1 < a.length ∧ k + 1 < b.length) := by rw [hasP_iff]; omega
   have e2 : hasP a b (i + 1) k = true ↔ (i + 1 < a.length) := by rw [hasP_iff]; omega
   have e3 : hasP a b i (k + 1) = true ↔ (k + 1 < b.length) := by rw [hasP_iff]; omega
   have b1 : hasP a b (i + 1) (k + 1) = true → cntI a b h (i + 1) (k + 1) ≤ 6561 := hb' ⟨i + 1, k + 1⟩
   have b2 : hasP a b (i + 1) k = true → cntI a b h (i + 1) k ≤ 6561 := hb' ⟨i + 1, k⟩
   have b3 : hasP a b i (k + 1) = true → cntI a b h i (k + 1) ≤ 6561 := hb' ⟨i, k + 1⟩
   generalize hz : (if i = (a.length : Int) - 1 ∧ k = (b.length : Int) - 1 then (1 : Int) else 0) = z
   have hz1 : z ≤ 1 := by rw [← hz]; split <;> omega
   rw [moves_eq a b i k h1 h2]
   unfold cX
   simp only [e1, e2, e3] at b1 b2 b3 ⊢
   by_cases g1 : i + 1 < a.length <;> by_cases g2 : k + 1 < b.length <;> simp only [g1, g2, and_self, and_true, true_and, and_false, false_and, if_true, if_false, List.nil_append, List.append_nil, List.foldl_cons, List.foldl_nil, List.cons_append, forall_const] at b1 b2 b3 ⊢ <;> omega
/-! ### Sums over all pairs. -/
def sm (f : Int → Int) : Nat → Int
 | 0 => 0
 | n + 1 => sm f n + f n
theorem sm_congr {f g : Int → Int} (n : Nat) (h : ∀ i : Int, 0 ≤ i → i < n → f i = g i) : sm f n = sm g n := by
 induction n with
 | zero => rfl
 | succ n ih =>
  show sm f n + f n = sm g n + g n
  rw [ih (fun i h1 h2 => h i h1 (by omega)), h n (by omega) (by omega)]
theorem sm_add (f g : Int → Int) (n : Nat) : sm (fun i => f i + g i) n = sm f n + sm g n := by
 induction n with
 | zero => rfl
 | succ n ih => show sm _ n + (f n + g n) = (sm f n + f n) + (sm g n + g n); rw [ih]; omega
theorem sm_zero (n : Nat) : sm (fun _ => 0) n = 0 := by
 induction n with
 | zero => rfl
 | succ n ih => show sm _ n + 0 = 0; rw [ih]; rfl
theorem sm_shift (u : Int → Int) (n : Nat) : sm (fun i => u (i + 1)) n + u 0 = sm u n + u n := by
 induction n with
 | zero => show 0 + u 0 = 0 + u ((0 : Nat) : Int); rfl
 | succ n ih =>
  show sm _ n + u ((n : Int) + 1) + u 0 = sm u n + u n + u ((n + 1 : Nat) : Int)
  have : ((n + 1 : Nat) : Int) = (n : Int) + 1 := by omega
  rw [this]
  omega
theorem sm_at (u : Int → Int) (n : Nat) (j : Nat) (hj : j < n) (h : ∀ i : Int, i ≠ j → u i = 0) : sm u n = u j := by
 induction n with
 | zero => omega
 | succ n ih =>
  show sm u n + u n = u j
  by_cases e : j = n
  · have : sm u n = sm (fun _ => 0) n := sm_congr n (fun i h1 h2 => h i (by omega))
    rw [this, sm_zero, e]
    omega
  · rw [ih (by omega), h n (by omega)]
    omega
/-- What a shift leaves. -/
theorem sm2_shift (u : Int → Int → Int) (n m : Nat) (h0 : ∀ k, u 0 k = 0) (h1 : ∀ k, u n k = 0) : sm (fun i => sm (fun k => u (i + 1) k) m) n = sm (fun i => sm (fun k => u i k) m) n := by
 have h := sm_shift (fun i => sm (fun k => u i k) m) n
 have e0 : sm (fun k => u 0 k) m = 0 := by rw [sm_congr m (g := fun _ => 0) (fun k _ _ => h0 k), sm_zero]
 have e1 : sm (fun k => u n k) m = 0 := by rw [sm_congr m (g := fun _ => 0) (fun k _ _ => h1 k), sm_zero]
 have h' : sm (fun i => sm (fun k => u (i + 1) k) m) n + sm (fun k => u 0 k) m = sm (fun i => sm (fun k => u i k) m) n + sm (fun k => u n k) m := h
 rw [e0, e1] at h'
 omega
theorem sm2_shift' (u : Int → Int → Int) (n m : Nat) (h0 : ∀ i, u i 0 = 0) (h1 : ∀ i, u i m = 0) : sm (fun i => sm (fun k => u i (k + 1)) m) n = sm (fun i => sm (fun k => u i k) m) n :=
 sm_congr n fun i _ _ => by
  have h := sm_shift (fun k => u i k) m
  have h' : sm (fun k => u i (k + 1)) m + u i 0 = sm (fun k => u i k) m + u i m := h
  rw [h0, h1] at h'
  omega
theorem sm2_add (f g : Int → Int → Int) (n m : Nat) : sm (fun i => sm (fun k => f i k + g i k) m) n = sm (fun i => sm (fun k => f i k) m) n + sm (fun i => sm (fun k => g i k) m) n := by
 rw [← sm_add]
 exact sm_congr n fun i _ _ => sm_add _ _ m
theorem sm2_congr {f g : Int → Int → Int} (n m : Nat) (h : ∀ i k : Int, 0 ≤ i → i < n → 0 ≤ k → k < m → f i k = g i k) : sm (fun i => sm (fun k => f i k) m) n = sm (fun i => sm (fun k => g i k) m) n :=
 sm_congr n fun i h1 h2 => sm_congr m fun k h3 h4 => h i k h1 h2 h3 h4
/-- Counted forwards and backwards. -/
theorem count_two (F B : Int → Int → Int) (ok : Int → Int → Prop) (n m : Nat) (hn : 0 < n) (hm : 0 < m)
  (F0 : ∀ i k : Int, ¬ ((0 ≤ i ∧ i < n) ∧ (0 ≤ k ∧ k < m)) → F i k = 0) (B0 : ∀ i k : Int, ¬ ((0 ≤ i ∧ i < n) ∧ (0 ≤ k ∧ k < m)) → B i k = 0)
  (hF : ∀ i k : Int, 0 ≤ i → i < n → 0 ≤ k → k < m → (ok i k ∧ F i k = (if i = 0 ∧ k = 0 then 1 else 0) + F (i - 1) (k - 1) + F (i - 1) k + F i (k - 1)) ∨ (¬ ok i k ∧ F i k = 0))
  (hB : ∀ i k : Int, 0 ≤ i → i < n → 0 ≤ k → k < m → (ok i k ∧ B i k = (if i = (n : Int) - 1 ∧ k = (m : Int) - 1 then 1 else 0) + B (i + 1) (k + 1) + B (i + 1) k + B i (k + 1)) ∨ (¬ ok i k ∧ B i k = 0)) :
  F ((n : Int) - 1) ((m : Int) - 1) = B 0 0 := by
 have e1 : sm (fun i => sm (fun k => F i k * B i k) m) n = sm (fun i => sm (fun k => ((F i k * (if i = (n : Int) - 1 ∧ k = (m : Int) - 1 then 1 else 0) + F i k * B (i + 1) (k + 1)) + F i k * B (i + 1) k) + F i k * B i (k + 1)) m) n :=
  sm2_congr n m fun i k h1 h2 h3 h4 => by
   rcases hB i k h1 h2 h3 h4 with ⟨_, e⟩ | ⟨hno, e⟩
   · rw [e, Int.mul_add, Int.mul_add, Int.mul_add]
   · rcases hF i k h1 h2 h3 h4 with ⟨ho, _⟩ | ⟨_, e2⟩
     · exact absurd ho hno
     · rw [e2]; simp
 have e2 : sm (fun i => sm (fun k => F i k * B i k) m) n = sm (fun i => sm (fun k => (((if i = 0 ∧ k = 0 then 1 else 0) * B i k + F (i - 1) (k - 1) * B i k) + F (i - 1) k * B i k) + F i (k - 1) * B i k) m) n :=
  sm2_congr n m fun i k h1 h2 h3 h4 => by
   rcases hF i k h1 h2 h3 h4 with ⟨_, e⟩ | ⟨hno, e⟩
   · rw [e, Int.add_mul, Int.add_mul, Int.add_mul]
   · rcases hB i k h1 h2 h3 h4 with ⟨ho, _⟩ | ⟨_, e2⟩
     · exact absurd ho hno
     · rw [e2]; simp
 rw [sm2_add, sm2_add, sm2_add] at e1 e2
 -- one edge at a time
 have s1 : sm (fun i => sm (fun k => F i k * B (i + 1) (k + 1)) m) n = sm (fun i => sm (fun k => F (i - 1) (k - 1) * B i k) m) n := by
  have h1 := sm2_shift (fun i k => F (i - 1) (k - 1) * B i k) n m (fun k => by show F (0 - 1) _ * _ = 0; rw [F0 _ _ (by omega)]; simp) (fun k => by show _ * B n k = 0; rw [B0 _ _ (by omega)]; simp)
  have h2 := sm2_shift' (fun i k => F (i + 1 - 1) (k - 1) * B (i + 1) k) n m (fun i => by show F _ (0 - 1) * _ = 0; rw [F0 _ _ (by omega)]; simp) (fun i => by show _ * B _ m = 0; rw [B0 _ _ (by omega)]; simp)
  rw [← h1, ← h2]
  exact sm2_congr n m fun i k _ _ _ _ => by show _ = F (i + 1 - 1) (k + 1 - 1) * B (i + 1) (k + 1); rw [show i + 1 - 1 = i by omega, show k + 1 - 1 = k by omega]
 have s2 : sm (fun i => sm (fun k => F i k * B (i + 1) k) m) n = sm (fun i => sm (fun k => F (i - 1) k * B i k) m) n := by
  have h1 := sm2_shift (fun i k => F (i - 1) k * B i k) n m (fun k => by show F (0 - 1) _ * _ = 0; rw [F0 _ _ (by omega)]; simp) (fun k => by show _ * B n k = 0; rw [B0 _ _ (by omega)]; simp)
  rw [← h1]
  exact sm2_congr n m fun i k _ _ _ _ => by show _ = F (i + 1 - 1) k * B (i + 1) k; rw [show i + 1 - 1 = i by omega]
 have s3 : sm (fun i => sm (fun k => F i k * B i (k + 1)) m) n = sm (fun i => sm (fun k => F i (k - 1) * B i k) m) n := by
  have h2 := sm2_shift' (fun i k => F i (k - 1) * B i k) n m (fun i => by show F _ (0 - 1) * _ = 0; rw [F0 _ _ (by omega)]; simp) (fun i => by show _ * B _ m = 0; rw [B0 _ _ (by omega)]; simp)
  rw [← h2]
  exact sm2_congr n m fun i k _ _ _ _ => by show _ = F i (k + 1 - 1) * B i (k + 1); rw [show k + 1 - 1 = k by omega]
 have t1 : sm (fun i => sm (fun k => F i k * (if i = (n : Int) - 1 ∧ k = (m : Int) - 1 then 1 else 0)) m) n = F ((n : Int) - 1) ((m : Int) - 1) := by
  have en : ((n - 1 : Nat) : Int) = (n : Int) - 1 := by omega
  have em : ((m - 1 : Nat) : Int) = (m : Int) - 1 := by omega
  rw [sm_at _ n (n - 1) (by omega) (fun i hi => by
   rw [sm_congr m (g := fun _ => 0) (fun k _ _ => by rw [if_neg (by omega)]; simp), sm_zero])]
  rw [sm_at _ m (m - 1) (by omega) (fun k hk => by rw [if_neg (by omega)]; simp)]
  rw [en, em, if_pos ⟨rfl, rfl⟩, Int.mul_one]
 have t2 : sm (fun i => sm (fun k => (if i = 0 ∧ k = 0 then 1 else 0) * B i k) m) n = B 0 0 := by
  rw [sm_at _ n 0 (by omega) (fun i hi => by
   rw [sm_congr m (g := fun _ => 0) (fun k _ _ => by rw [if_neg (by omega)]; simp), sm_zero])]
  rw [sm_at _ m 0 (by omega) (fun k hk => by rw [if_neg (by omega)]; simp)]
  rw [if_pos ⟨rfl, rfl⟩, Int.one_mul]
  rfl
 rw [t1, s1, s2, s3] at e1
 rw [t2] at e2
 omega
theorem cnt_rev {a b : List S59} (hR : Rolls a b) (hl : a.length ≤ 5 ∧ b.length ≤ 5) (h : Int) : cntI a.reverse b.reverse h 0 0 = cntI a b h 0 0 := by
 have hp0 := has0 hR
 have hl' : a.reverse.length ≤ 5 ∧ b.reverse.length ≤ 5 := by rw [List.length_reverse, List.length_reverse]; exact hl
 have key := count_two (fun i k => cX a.reverse b.reverse h ((a.length : Int) - 1 - i) ((b.length : Int) - 1 - k)) (fun i k => cX a b h i k) (fun i k => ¬ h < dist a b i k) a.length b.length (by have := hR.ha; omega) (by have := hR.hb; omega)
  (fun i k hno => by
   show (if _ then _ else _) = _
   rw [if_neg (fun hh => hno ((hasP_iff a b i k).1 (has_rev.1 hh)))])
  (fun i k hno => by
   show (if _ then _ else _) = _
   rw [if_neg (fun hh => hno ((hasP_iff a b i k).1 hh))])
  (fun i k h1 h2 h3 h4 => by
   have hp : hasP a b i k = true := (hasP_iff a b i k).2 ⟨⟨h1, h2⟩, ⟨h3, h4⟩⟩
   by_cases hd : h < dist a b i k
   · refine .inr ⟨fun hn => hn hd, ?_⟩
     show cX a.reverse b.reverse h _ _ = 0
     rw [cX_eq h hl' (has_rev.2 hp), dist_rev hp, if_pos hd]
   · refine .inl ⟨hd, ?_⟩
     show cX a.reverse b.reverse h _ _ = _
     rw [cX_eq h hl' (has_rev.2 hp), dist_rev hp, if_neg hd, List.length_reverse, List.length_reverse]
     rw [show (a.length : Int) - 1 - (i - 1) = (a.length : Int) - 1 - i + 1 by omega, show (b.length : Int) - 1 - (k - 1) = (b.length : Int) - 1 - k + 1 by omega]
     congr 3
     by_cases hz : i = 0 ∧ k = 0
     · rw [if_pos hz, if_pos (by omega)]
     · rw [if_neg hz, if_neg (by omega)])
  (fun i k h1 h2 h3 h4 => by
   have hp : hasP a b i k = true := (hasP_iff a b i k).2 ⟨⟨h1, h2⟩, ⟨h3, h4⟩⟩
   by_cases hd : h < dist a b i k
   · refine .inr ⟨fun hn => hn hd, ?_⟩
     show cX a b h _ _ = 0
     rw [cX_eq h hl hp, if_pos hd]
   · refine .inl ⟨hd, ?_⟩
     show cX a b h _ _ = _
     rw [cX_eq h hl hp, if_neg hd])
 have key' : cX a.reverse b.reverse h ((a.length : Int) - 1 - ((a.length : Int) - 1)) ((b.length : Int) - 1 - ((b.length : Int) - 1)) = cX a b h 0 0 := key
 rw [show (a.length : Int) - 1 - ((a.length : Int) - 1) = 0 by omega, show (b.length : Int) - 1 - ((b.length : Int) - 1) = 0 by omega] at key'
 unfold cX at key'
 rw [if_pos hp0, if_pos (has0 hR.rev)] at key'
 exact key'

end Go.Proofs.Ytkocigldchiifaa.H

/- pianolalaw07.AlignTurned. -/
namespace Go.Proofs.Ytkocigldchiifaa.H
open Go.RowKit Go.Proofs.YtkocigldchiifaaW.PrintWords Go.Proofs.YtkocigldchiifaaW.PrintLast Go.Proofs.YtkocigldchiifaaW.PrintMore
open Go.Shelf Go.Proofs.Ytkocigldchiifaa.QA
set_option linter.unusedVariables false
set_option linter.unusedSimpArgs false

theorem rev_take (a : List S59) (i j : Nat) (h : i < a.length) (hj : j = a.length - 1 - i) : a.reverse.take i ++ [rd_T59 a (j : Int)] = a.reverse.take (i + 1) := by
 rw [List.take_add_one, List.getElem?_reverse h, ← hj]
 unfold rd_T59
 rw [Int.toNat_natCast, List.getD_eq_getElem?_getD, List.getElem?_eq_getElem (by omega)]
 rfl
theorem rev_all (a : List S59) : a.reverse.take a.length = a.reverse := List.take_of_length_le (by rw [List.length_reverse]; exact Nat.le_refl _)
theorem walks_f {a b : List S59} (hR : Rolls a b) (t : Nat) : align_Walks.f a b t = some (cntI a b t 0 0, 0) := by
 unfold align_Walks.f
 rw [check_ok hR]
 show some (if (0 : Int) = 0 then (if (t : Int) < 0 then ((0 : Int), (3 : Int)) else (cntI a b t 0 0, 0)) else (0, 0)) = _
 rw [if_pos rfl, if_neg (by omega)]
set_option maxRecDepth 100000 in
set_option maxHeartbeats 2000000 in
theorem alignTurned_calls (A0 : Option Addr) (c0 : Nat) (l0 : List S59) (A1 : Option Addr) (c1 : Nat) (l1 : List S59) (a2 : Int) (w : World) (hC0 : Kd.C k111 w A0 l0.length l0) (hc0 : l0.length ≤ c0) (hb0 : ∀ x ∈ l0, Byte3 x) (hC1 : Kd.C k111 w A1 l1.length l1) (hc1 : l1.length ≤ c1) (hb1 : ∀ x ∈ l1, Byte3 x) (h2 : isByte a2) :
  Calls Try.prog 8 #[.slice A0 l0.length c0, .slice A1 l1.length c1, .int .u8 a2] w fun e w' => e = .returned (.bool true) ∧ Below w.heap.size w w' := by
  have hu59 := Try.underlying59
  have H0 := Aside0.mk hC0
  have H1 := Aside0.mk hC1
  have HA0 := Aside0.mk (And.intro hc0 hb0)
  have HA1 := Aside0.mk (And.intro hc1 hb1)
  have HB := Aside0.mk (Below.refl w.heap.size w)
  have hlena := made_len l0
  have hlenb := made_len l1
  have HLa := Aside0.mk hlena
  have HLb := Aside0.mk hlenb
  unfold isByte at h2
  obtain ⟨t, ht⟩ : ∃ t : Nat, (t : Int) = a2 % 30 := ⟨(a2 % 30).toNat, by omega⟩
  have r01 := made_rolls hb0 hb1
  obtain ⟨oc, hoc⟩ : ∃ o, (madeF l0).reverse = o := ⟨_, rfl⟩
  obtain ⟨od, hod⟩ : ∃ o, (madeF l1).reverse = o := ⟨_, rfl⟩
  have HRa := Aside0.mk hoc
  have HRb := Aside0.mk hod
  obtain ⟨x, y, hF⟩ : ∃ x y : Int, (align_Gap.f (madeF l0) (madeF l1) = some (x, 0) ∧ align_Gap.f oc od = some (x, 0) ∧ align_Walks.f (madeF l0) (madeF l1) t = some (y, 0) ∧ align_Walks.f oc od t = some (y, 0) ∧ (0 < y ↔ x ≤ t)) :=
   ⟨_, _, gap_f r01, by rw [← hoc, ← hod, gap_f r01.rev, gap_rev r01], walks_f r01 t, by rw [← hoc, ← hod, walks_f r01.rev, cnt_rev r01 ⟨hlena.2, hlenb.2⟩], by rw [cnt_iff (has0 r01), gap_iff r01]⟩
  have HF := Aside0.mk hF
  have HE5 := Aside0.mk (show IntKind.i64.wrap a2 = a2 by rw [i64_w]; unfold wrap64; omega)
  have HE7 := Aside0.mk (show a2.tmod 30 = (t : Int) by rw [ht]; exact Int.tmod_eq_emod_of_nonneg h2.1)
  obtain ⟨q, hq⟩ : ∃ q : Bool, decide (0 < y) = q ∧ decide (x ≤ (t : Int)) = q := ⟨_, rfl, decide_eq_decide.2 hF.2.2.2.2.symm⟩
  have HD := Aside0.mk hq
  clear hC0 hc0 hb0 hC1 hc1 hb1 hF ht h2 r01 hlena hlenb hq hoc hod
  go_enter Try.func8, Try.ntmps8
  go_wp2_with fail
  refine (made_calls A0 c0 l0 _ H0.out HA0.out.1 HA0.out.2).mono ?_
  rintro e w1 ⟨v, rfl, hR, hb⟩
  have hbb := hb; clear hb
  have HB' := Aside0.mk (below_then HB.out HB.out.size hbb); clear HB; have HB := HB'; clear HB'
  have H0' := Aside0.mk (Kd.C_below H0.out hbb); clear H0; have H0 := H0'; clear H0'
  have H1' := Aside0.mk (Kd.C_below H1.out hbb); clear H1; have H1 := H1'; clear H1'
  clear hbb
  obtain ⟨Aa, ca, rfl, hca, hCa⟩ := Kd.R_reads hR
  clear hR
  have HCa := Aside0.mk hCa; clear hCa
  go_wp2_with fail
  refine (made_calls A1 c1 l1 _ H1.out HA1.out.1 HA1.out.2).mono ?_
  rintro e w2 ⟨v, rfl, hR, hb⟩
  have hbb := hb; clear hb
  have HB' := Aside0.mk (below_then HB.out HB.out.size hbb); clear HB; have HB := HB'; clear HB'
  have H0' := Aside0.mk (Kd.C_below H0.out hbb); clear H0; have H0 := H0'; clear H0'
  have H1' := Aside0.mk (Kd.C_below H1.out hbb); clear H1; have H1 := H1'; clear H1'
  have HCa' := Aside0.mk (Kd.C_below HCa.out hbb); clear HCa; have HCa := HCa'; clear HCa'
  clear hbb
  obtain ⟨Ab, cb, rfl, hcb, hCb⟩ := Kd.R_reads hR
  clear hR
  have HCb := Aside0.mk hCb; clear hCb
  go_wp2
  go_loopw [9, 28] (fun s0 s1 wr => ∃ i : Nat, i ≤ (madeF l0).length ∧ s1 = .int .i64 i ∧ Aside0 (OwnE wr w2.heap.size s0 ((madeF l0).reverse.take i)) ∧ Aside0 (Below w2.heap.size w2 wr)) (fun _ s1 _ => (madeF l0).length - (intOf s1).toNat)
  case atStart => exact ⟨0, by omega, rfl, ⟨⟨rfl, .inl ⟨rfl, rfl⟩⟩⟩, ⟨Below.refl _ _⟩⟩
  case round =>
   obtain ⟨i, hi, rfl, HO, HB6⟩ := hrel
   by_cases hlt : i < (madeF l0).length
   · have hd : decide ((i : Int) < ((madeF l0).length : Int)) = true := decide_eq_true (Int.ofNat_lt.2 hlt)
     obtain ⟨j, hj⟩ : ∃ j : Nat, j = (madeF l0).length - 1 - i := ⟨_, rfl⟩
     have hlen := HLa.out
     have e1 : wrap64 (((madeF l0).length : Int) - 1) = ((madeF l0).length : Int) - 1 := wrap_small _ (by omega) (by omega)
     have e2 : wrap64 (((madeF l0).length : Int) - 1 - (i : Int)) = (j : Int) := by rw [wrap_small _ (by omega) (by omega)]; omega
     obtain ⟨ad2, had, x0, x1, x2⟩ := at_T59 (Kd.C_below HCa.out HB6.out) (j : Int) (Int.natCast_nonneg j) (by omega)
     cases had
     have hsn : (madeF l0).reverse.take i ++ [rd_T59 (madeF l0) (j : Int)] = (madeF l0).reverse.take (i + 1) := rev_take _ _ _ hlt hj
     rw [Int.toNat_natCast] at x0 x1 x2
     generalize hp : rd_T59 (madeF l0) (j : Int) = p at x0 x1 x2 hsn
     have HP := Aside0.mk hp
     have HS := Aside0.mk hsn
     have HJ := Aside0.mk (And.intro hlt hlen)
     have hjl : j < (madeF l0).length := by omega
     clear hp hsn hj hlen
     go_wp2_with (at_builtin; refine Aside0.out ?_)
     refine ⟨?_⟩
     have hb3 := below_alloc (Below.refl wr.heap.size wr) (.cells #[.int .i64 p.f0, .int .i64 p.f1, .int .i64 p.f2] 59)
     refine wpList_append_E rfl _ _ rfl w2.heap.size _ ((madeF l0).reverse.take i) [p] rfl (HO.out.below hb3) ⟨wr.heap.size, 0, none⟩ 1 1 rfl rfl (fun k u hu => by simpa using World.news_of_block (cs := #[.int .i64 p.f0, .int .i64 p.f1, .int .i64 p.f2]) (t := 59) (fr := (0, 0)) (heap_alloc_new wr (.cells #[.int .i64 p.f0, .int .i64 p.f1, .int .i64 p.f2] 59)) k u (by simpa [cellsE] using hu)) (by have := HJ.out; rw [List.length_take, List.length_reverse]; omega) (Nat.le_trans HB6.out.size hb3.size) ?_
     intro v4 w4 hO4 hb4 hg4
     go_wp2
     rw [HS.out] at hO4
     have hb5 : Below w2.heap.size w2 w4 := (HB6.out.trans (hb3.mono HB6.out.size)).trans hb4
     clear e1 e2 hd
     have hiw : wrap64 ((i : Int) + 1) = (i : Int) + 1 := wrap_small _ (Int.add_nonneg (Int.natCast_nonneg i) (by decide)) (by have := HJ.out; omega)
     rw [hiw]
     refine ⟨⟨i + 1, hlt, rfl, ⟨hO4⟩, ⟨hb5⟩⟩, ?_⟩
     show (madeF l0).length - ((i : Int) + 1).toNat < (madeF l0).length - ((i : Int)).toNat
     omega
   · have hd : decide ((i : Int) < ((madeF l0).length : Int)) = false := decide_eq_false (fun h => hlt (Int.ofNat_lt.1 h))
     obtain rfl : i = (madeF l0).length := Nat.le_antisymm hi (Nat.le_of_not_lt hlt)
     have hOx := HO.out
     rw [rev_all, HRa.out] at hOx
     rename World => w3
     have HOc := Aside0.mk hOx
     have HB3 := Aside0.mk HB6.out
     have HB' := Aside0.mk (below_then HB.out HB.out.size HB6.out); clear HB; have HB := HB'; clear HB'
     have HCb' := Aside0.mk (Kd.C_below HCb.out HB6.out); clear HCb; have HCb := HCb'; clear HCb'
     have HCa' := Aside0.mk (Kd.C_below HCa.out HB6.out); clear HCa; have HCa := HCa'; clear HCa'
     clear HO HB6 hOx hi hlt
     go_wp2
     go_loopw [10, 45] (fun s0 s1 wr => ∃ i : Nat, i ≤ (madeF l1).length ∧ s1 = .int .i64 i ∧ Aside0 (OwnE wr w3.heap.size s0 ((madeF l1).reverse.take i)) ∧ Aside0 (Below w3.heap.size w3 wr)) (fun _ s1 _ => (madeF l1).length - (intOf s1).toNat)
     case atStart => exact ⟨0, by omega, rfl, ⟨⟨rfl, .inl ⟨rfl, rfl⟩⟩⟩, ⟨Below.refl _ _⟩⟩
     case round =>
      obtain ⟨i, hi, rfl, HO, HB6⟩ := hrel
      by_cases hlt : i < (madeF l1).length
      · have hd : decide ((i : Int) < ((madeF l1).length : Int)) = true := decide_eq_true (Int.ofNat_lt.2 hlt)
        obtain ⟨j, hj⟩ : ∃ j : Nat, j = (madeF l1).length - 1 - i := ⟨_, rfl⟩
        have hlen := HLb.out
        have e1 : wrap64 (((madeF l1).length : Int) - 1) = ((madeF l1).length : Int) - 1 := wrap_small _ (by omega) (by omega)
        have e2 : wrap64 (((madeF l1).length : Int) - 1 - (i : Int)) = (j : Int) := by rw [wrap_small _ (by omega) (by omega)]; omega
        obtain ⟨ad2, had, x0, x1, x2⟩ := at_T59 (Kd.C_below HCb.out HB6.out) (j : Int) (Int.natCast_nonneg j) (by omega)
        cases had
        have hsn : (madeF l1).reverse.take i ++ [rd_T59 (madeF l1) (j : Int)] = (madeF l1).reverse.take (i + 1) := rev_take _ _ _ hlt hj
        rw [Int.toNat_natCast] at x0 x1 x2
        generalize hp : rd_T59 (madeF l1) (j : Int) = p at x0 x1 x2 hsn
        have HP := Aside0.mk hp
        have HS := Aside0.mk hsn
        have HJ := Aside0.mk (And.intro hlt hlen)
        have hjl : j < (madeF l1).length := by omega
        clear hp hsn hj hlen
        go_wp2_with (at_builtin; refine Aside0.out ?_)
        refine ⟨?_⟩
        have hb3 := below_alloc (Below.refl wr.heap.size wr) (.cells #[.int .i64 p.f0, .int .i64 p.f1, .int .i64 p.f2] 59)
        refine wpList_append_E rfl _ _ rfl w3.heap.size _ ((madeF l1).reverse.take i) [p] rfl (HO.out.below hb3) ⟨wr.heap.size, 0, none⟩ 1 1 rfl rfl (fun k u hu => by simpa using World.news_of_block (cs := #[.int .i64 p.f0, .int .i64 p.f1, .int .i64 p.f2]) (t := 59) (fr := (0, 0)) (heap_alloc_new wr (.cells #[.int .i64 p.f0, .int .i64 p.f1, .int .i64 p.f2] 59)) k u (by simpa [cellsE] using hu)) (by have := HJ.out; rw [List.length_take, List.length_reverse]; omega) (Nat.le_trans HB6.out.size hb3.size) ?_
        intro v4 w4 hO4 hb4 hg4
        go_wp2
        rw [HS.out] at hO4
        have hb5 : Below w3.heap.size w3 w4 := (HB6.out.trans (hb3.mono HB6.out.size)).trans hb4
        clear e1 e2 hd
        have hiw : wrap64 ((i : Int) + 1) = (i : Int) + 1 := wrap_small _ (Int.add_nonneg (Int.natCast_nonneg i) (by decide)) (by have := HJ.out; omega)
        rw [hiw]
        refine ⟨⟨i + 1, hlt, rfl, ⟨hO4⟩, ⟨hb5⟩⟩, ?_⟩
        show (madeF l1).length - ((i : Int) + 1).toNat < (madeF l1).length - ((i : Int)).toNat
        omega
      · have hd : decide ((i : Int) < ((madeF l1).length : Int)) = false := decide_eq_false (fun h => hlt (Int.ofNat_lt.1 h))
        obtain rfl : i = (madeF l1).length := Nat.le_antisymm hi (Nat.le_of_not_lt hlt)
        have hOx := HO.out
        rw [rev_all, HRb.out] at hOx
        rename World => w4
        have hb := HB6.out
        obtain ⟨Ad, cd, rfl, hcd, hCd⟩ := hOx.reads
        have hOc := HOc.out.below hb
        obtain ⟨Ac, cc, rfl, hcc, hCc⟩ := hOc.reads
        have HCc := Aside0.mk hCc
        have HCd := Aside0.mk hCd
        have HB' := Aside0.mk (below_then HB.out HB.out.size hb); clear HB; have HB := HB'; clear HB'
        have HCb' := Aside0.mk (Kd.C_below HCb.out hb); clear HCb; have HCb := HCb'; clear HCb'
        have HCa' := Aside0.mk (Kd.C_below HCa.out hb); clear HCa; have HCa := HCa'; clear HCa'
        clear HO HB6 hOx hi hlt hOc HOc hb hCc hCd HB3
        have e5 := HE5.out
        have e7 := HE7.out
        have d1 := HD.out.1
        have d2 := HD.out.2
        go_wp2_with fail
        refine (align_Gap.calls Aa ca (madeF l0) Ab cb (madeF l1) x 0 _ HCa.out hca HCb.out hcb HF.out.1).mono ?_
        rintro e w5 ⟨rfl, hb⟩
        have hbb := hb; clear hb
        have HB' := Aside0.mk (below_then HB.out HB.out.size hbb); clear HB; have HB := HB'; clear HB'
        have HCa' := Aside0.mk (Kd.C_below HCa.out hbb); clear HCa; have HCa := HCa'; clear HCa'
        have HCb' := Aside0.mk (Kd.C_below HCb.out hbb); clear HCb; have HCb := HCb'; clear HCb'
        have HCc' := Aside0.mk (Kd.C_below HCc.out hbb); clear HCc; have HCc := HCc'; clear HCc'
        have HCd' := Aside0.mk (Kd.C_below HCd.out hbb); clear HCd; have HCd := HCd'; clear HCd'
        clear hbb
        go_wp2_with fail
        refine (align_Gap.calls Ac cc oc Ad cd od x 0 _ HCc.out hcc HCd.out hcd HF.out.2.1).mono ?_
        rintro e w6 ⟨rfl, hb⟩
        have hbb := hb; clear hb
        have HB' := Aside0.mk (below_then HB.out HB.out.size hbb); clear HB; have HB := HB'; clear HB'
        have HCa' := Aside0.mk (Kd.C_below HCa.out hbb); clear HCa; have HCa := HCa'; clear HCa'
        have HCb' := Aside0.mk (Kd.C_below HCb.out hbb); clear HCb; have HCb := HCb'; clear HCb'
        have HCc' := Aside0.mk (Kd.C_below HCc.out hbb); clear HCc; have HCc := HCc'; clear HCc'
        have HCd' := Aside0.mk (Kd.C_below HCd.out hbb); clear HCd; have HCd := HCd'; clear HCd'
        clear hbb
        go_wp2_with fail
        refine (align_Walks.calls Aa ca (madeF l0) Ab cb (madeF l1) (t : Int) y 0 _ HCa.out hca HCb.out hcb HF.out.2.2.1).mono ?_
        rintro e w7 ⟨rfl, hb⟩
        have hbb := hb; clear hb
        have HB' := Aside0.mk (below_then HB.out HB.out.size hbb); clear HB; have HB := HB'; clear HB'
        have HCa' := Aside0.mk (Kd.C_below HCa.out hbb); clear HCa; have HCa := HCa'; clear HCa'
        have HCb' := Aside0.mk (Kd.C_below HCb.out hbb); clear HCb; have HCb := HCb'; clear HCb'
        have HCc' := Aside0.mk (Kd.C_below HCc.out hbb); clear HCc; have HCc := HCc'; clear HCc'
        have HCd' := Aside0.mk (Kd.C_below HCd.out hbb); clear HCd; have HCd := HCd'; clear HCd'
        clear hbb
        go_wp2_with fail
        refine (align_Walks.calls Ac cc oc Ad cd od (t : Int) y 0 _ HCc.out hcc HCd.out hcd HF.out.2.2.2.1).mono ?_
        rintro e w8 ⟨rfl, hb⟩
        have hbb := hb; clear hb
        have HB' := Aside0.mk (below_then HB.out HB.out.size hbb); clear HB; have HB := HB'; clear HB'
        have HCa' := Aside0.mk (Kd.C_below HCa.out hbb); clear HCa; have HCa := HCa'; clear HCa'
        have HCb' := Aside0.mk (Kd.C_below HCb.out hbb); clear HCb; have HCb := HCb'; clear HCb'
        have HCc' := Aside0.mk (Kd.C_below HCc.out hbb); clear HCc; have HCc := HCc'; clear HCc'
        have HCd' := Aside0.mk (Kd.C_below HCd.out hbb); clear HCd; have HCd := HCd'; clear HCd'
        clear hbb
        go_wp2_with fail
        refine (works_calls _).mono ?_
        rintro e w9 ⟨rfl, hb⟩
        have hbb := hb; clear hb
        have HB' := Aside0.mk (below_then HB.out HB.out.size hbb); clear HB; have HB := HB'; clear HB'
        have HCa' := Aside0.mk (Kd.C_below HCa.out hbb); clear HCa; have HCa := HCa'; clear HCa'
        have HCb' := Aside0.mk (Kd.C_below HCb.out hbb); clear HCb; have HCb := HCb'; clear HCb'
        have HCc' := Aside0.mk (Kd.C_below HCc.out hbb); clear HCc; have HCc := HCc'; clear HCc'
        have HCd' := Aside0.mk (Kd.C_below HCd.out hbb); clear HCd; have HCd := HCd'; clear HCd'
        clear hbb
        go_wp2
        go_ret
        exact ⟨rfl, HB.out⟩

end Go.Proofs.Ytkocigldchiifaa.H
