/- Texts PW, PX, PY of this chapter, one behind the other. -/
import Derived.Test.YthddeillkdediaaQA4
import Derived.Test.YthddeillkdediaaQA5
import Derived.Test.YthddeillkdediaaXI

/- Plain facts for the statements without the reference: samples, choices by bits, fractions. -/
namespace Go.Proofs.Ythddeillkdediaa.H
open Go.RowKit Go.Proofs.YthddeillkdediaaW.PrintWords Go.Proofs.YthddeillkdediaaW.PrintLast Go.Proofs.YthddeillkdediaaW.PrintMore
open Go.Shelf Go.Proofs.Ythddeillkdediaa.QA
set_option linter.unusedVariables false
set_option linter.unusedSimpArgs false


theorem tmod_nat (x y : Nat) : Int.tmod (x : Int) (y : Int) = ((x % y : Nat) : Int) := rfl
/-- What a sample of a statement is like. -/
def SmpOK (r : List Int) : Prop := 1 ≤ r.length ∧ r.length ≤ 5 ∧ ∀ x ∈ r, -3 ≤ x ∧ x ≤ 63
theorem sampled_l (l : List Int) (hl : ∀ x ∈ l, 0 ≤ x ∧ x ≤ 255) (wd : Nat) (hw : wd ≤ 255) : ∀ (m k i : Nat) (out : List Int), 5 - i = m → i = out.length → i ≤ 5 → (∀ x ∈ out, -3 ≤ x ∧ x ≤ 63) → m + 2 ≤ k → ∃ r, pianolalaw10_sampled.l0 k l (wd : Int) out (i : Int) = some r ∧ SmpOK r := by
 have hend : ∀ out : List Int, out.length ≤ 5 → (∀ x ∈ out, -3 ≤ x ∧ x ≤ 63) → ∃ r, (if (out.length : Int) = 0 then (if out.length < 17592186044416 then some (out ++ [1]) else none) else some out) = some r ∧ SmpOK r := fun out h1 h2 => by
  by_cases c : (out.length : Int) = 0
  · rw [if_pos c, if_pos (by omega)]
    have : out = [] := List.length_eq_zero_iff.1 (by omega)
    subst this
    exact ⟨_, rfl, by simp, by simp, by simp⟩
  · rw [if_neg c]
    exact ⟨_, rfl, by omega, h1, h2⟩
 intro m
 induction m with
 | zero =>
  intro k i out h1 h2 h3 h4 h5
  obtain ⟨k, rfl⟩ : ∃ k', k = k' + 1 := ⟨k - 1, by omega⟩
  unfold pianolalaw10_sampled.l0
  by_cases c : (i : Int) < (l.length : Int)
  · rw [if_pos c, if_neg (by omega)]
    exact hend out (by omega) h4
  · rw [if_neg c]
    exact hend out (by omega) h4
 | succ m ih =>
  intro k i out h1 h2 h3 h4 h5
  obtain ⟨k, rfl⟩ : ∃ k', k = k' + 1 := ⟨k - 1, by omega⟩
  unfold pianolalaw10_sampled.l0
  by_cases c : (i : Int) < (l.length : Int)
  · have hwm : wrap64 (2 + Int.tmod (wd : Int) 64) = ((2 + wd % 64 : Nat) : Int) := by
     rw [show (64 : Int) = ((64 : Nat) : Int) from rfl, tmod_nat, w64' _ (by omega) (by omega)]; push_cast; rfl
    have hx := hl _ (rd_mem l (show i < l.length by omega))
    obtain ⟨v, hv⟩ : ∃ v : Nat, rd l (i : Int) = (v : Int) := ⟨(rd l (i : Int)).toNat, by omega⟩
    rw [hv] at hx
    have hmod : v % (2 + wd % 64) < 2 + wd % 64 := Nat.mod_lt _ (by omega)
    rw [if_pos c, if_pos (by omega), if_pos (by omega), hwm, if_neg (by omega), if_pos (by omega), hv, w64' (v : Int) (by omega) (by omega), tmod_nat, w64' (((v % (2 + wd % 64) : Nat) : Int) - 3) (by omega) (by omega), wrap_up i (by omega)]
    exact ih k (i + 1) _ (by omega) (by simp [h2]) (by omega) (fun x hx => by
     rcases List.mem_append.1 hx with h | h
     · exact h4 x h
     · rw [List.mem_singleton.1 h]; omega) (by omega)
  · rw [if_neg c]
    exact hend out (by omega) h4
theorem sampled_f (l : List Int) (hl : ∀ x ∈ l, 0 ≤ x ∧ x ≤ 255) (wd : Int) (hw : 0 ≤ wd ∧ wd ≤ 255) (k : Nat) (hk : 10 ≤ k) : ∃ r, pianolalaw10_sampled.f k l wd = some r ∧ SmpOK r := by
 obtain ⟨n, rfl⟩ : ∃ n : Nat, wd = (n : Int) := ⟨wd.toNat, by omega⟩
 unfold pianolalaw10_sampled.f
 exact sampled_l l hl n (by omega) 5 k 0 [] rfl rfl (by omega) (by simp) (by omega)
theorem made_f (l m : List Int) (hl : ∀ x ∈ l, 0 ≤ x ∧ x ≤ 255) (hm : ∀ x ∈ m, 0 ≤ x ∧ x ≤ 255) (wd : Int) (hw : 0 ≤ wd ∧ wd ≤ 255) (k : Nat) (hk : 10 ≤ k) : ∃ a b, pianolalaw10_Touch_made.f k l m wd = some (a, b) ∧ SmpOK a ∧ SmpOK b := by
 unfold pianolalaw10_Touch_made.f
 rw [w64' wd (by omega) (by omega)]
 obtain ⟨a, ha, h1⟩ := sampled_f l hl wd hw k hk
 obtain ⟨b, hb, h2⟩ := sampled_f m hm wd hw k hk
 rw [ha, hb]
 exact ⟨a, b, rfl, h1, h2⟩
theorem SmpOK.chk {r : List Int} (h : SmpOK r) : chk r = 0 := by
 unfold H.chk
 rw [if_neg (by have := h.1; omega), if_neg (by have := h.2.1; omega), if_neg]
 rw [List.any_eq_true]
 rintro ⟨x, hx, hg⟩
 have := h.2.2 x hx
 unfold goodB isIn at hg
 simp at hg
 omega
theorem smp_both {a b : List Int} (ha : SmpOK a) (hb : SmpOK b) : bothI a b = 0 := by unfold bothI; rw [if_pos ha.chk, hb.chk]
theorem lowest_l (s t : Nat) (p q : Int) (ht : 0 < t) (hs : s ≤ 4611686018427387904) (ht2 : t ≤ 4611686018427387904) : ∀ (n x y k : Nat), y < 2 ^ n → 2 * n + 1 ≤ k → Nat.gcd x y = Nat.gcd s t → 0 < x →
  pianolalaw10_lowest.l0 k (s : Int) (t : Int) (x : Int) (y : Int) p q = some (p == (lowI s t).1 && (q == (lowI s t).2)) := by
 have hend : ∀ (x k : Nat), Nat.gcd x 0 = Nat.gcd s t → 0 < x → pianolalaw10_lowest.l0 (k + 1) (s : Int) (t : Int) (x : Int) ((0 : Nat) : Int) p q = some (p == (lowI s t).1 && (q == (lowI s t).2)) := fun x k hg hx => by
  unfold pianolalaw10_lowest.l0
  rw [if_neg (by omega), if_neg (by omega)]
  rw [Nat.gcd_zero_right] at hg
  have e1 : Int.tdiv (s : Int) (x : Int) = ((s / x : Nat) : Int) := rfl
  have e2 : Int.tdiv (t : Int) (x : Int) = ((t / x : Nat) : Int) := rfl
  have b1 := Nat.div_le_self s x
  have b2 := Nat.div_le_self t x
  rw [e1, e2]
  unfold lowI
  rw [← hg]
  generalize s / x = p1 at b1 ⊢
  generalize t / x = p2 at b2 ⊢
  rw [w64' _ (by omega) (by omega), w64' _ (by omega) (by omega)]
 have hstep : ∀ (x y k : Nat), 0 < y → pianolalaw10_lowest.l0 (k + 1) (s : Int) (t : Int) (x : Int) (y : Int) p q = pianolalaw10_lowest.l0 k (s : Int) (t : Int) (y : Int) ((x % y : Nat) : Int) p q := fun x y k hy => by
  rw [pianolalaw10_lowest.l0, if_pos (by omega), if_neg (by omega)]
  rfl
 have hgcd : ∀ x y : Nat, Nat.gcd y (x % y) = Nat.gcd x y := fun x y => by rw [Nat.gcd_comm x y, Nat.gcd_rec y x, Nat.gcd_comm]
 intro n
 induction n with
 | zero =>
  intro x y k hy hk hg hx
  obtain rfl : y = 0 := by simpa using hy
  obtain ⟨k, rfl⟩ : ∃ k', k = k' + 1 := ⟨k - 1, by omega⟩
  exact hend x k hg hx
 | succ n ih =>
  intro x y k hy hk hg hx
  obtain ⟨k, rfl⟩ : ∃ k', k = k' + 1 + 1 := ⟨k - 2, by omega⟩
  by_cases h0 : y = 0
  · subst h0
    exact hend x (k + 1) hg hx
  · have hy0 : 0 < y := by omega
    rw [hstep x y (k + 1) hy0]
    have hr := Nat.mod_lt x hy0
    by_cases h1 : x % y = 0
    · rw [h1]
      exact hend y k (by rw [← h1, hgcd, hg]) hy0
    · have hr0 : 0 < x % y := by omega
      rw [hstep y (x % y) k hr0]
      refine ih (x % y) (y % (x % y)) k ?_ (by omega) (by rw [hgcd, hgcd, hg]) hr0
      have h2 := Nat.mod_lt y hr0
      have h3 : y % (x % y) + (x % y) ≤ y := by
       have h4 := Nat.mod_add_div y (x % y)
       have h5 : 0 < y / (x % y) := Nat.div_pos (Nat.le_of_lt hr) hr0
       have h6 : (x % y) * 1 ≤ (x % y) * (y / (x % y)) := Nat.mul_le_mul_left _ h5
       omega
      rw [Nat.pow_succ] at hy
      omega
theorem lowest_f (s t k : Nat) (p q : Int) (ht : 0 < t) (hs : s ≤ 4294967296) (ht2 : t ≤ 4294967296) (hk : 200 ≤ k) : pianolalaw10_lowest.f k p q (s : Int) (t : Int) = some (p == (lowI s t).1 && (q == (lowI s t).2)) := by
 unfold pianolalaw10_lowest.f
 by_cases h0 : s = 0
 · subst h0
   obtain ⟨k, rfl⟩ : ∃ k', k = k' + 1 := ⟨k - 1, by omega⟩
   rw [pianolalaw10_lowest.l0, if_pos (by omega), if_neg (by omega)]
   have e : Int.tmod ((0 : Nat) : Int) (t : Int) = ((0 % t : Nat) : Int) := rfl
   rw [e, Nat.zero_mod]
   exact lowest_l 0 t p q ht (by omega) (by omega) 0 t 0 k (by omega) (by omega) (by rw [Nat.gcd_zero_right, Nat.gcd_zero_left]) ht
 · exact lowest_l s t p q ht (by omega) (by omega) 33 s t k (by omega) (by omega) rfl (by omega)
end Go.Proofs.Ythddeillkdediaa.H

/- Plain law: chances of choices, and levels. -/
namespace Go.Proofs.Ythddeillkdediaa.H
open Go.RowKit Go.Proofs.YthddeillkdediaaW.PrintWords Go.Proofs.YthddeillkdediaaW.PrintLast Go.Proofs.YthddeillkdediaaW.PrintMore
open Go.Shelf Go.Proofs.Ythddeillkdediaa.QA
set_option linter.unusedVariables false
set_option linter.unusedSimpArgs false


theorem splits_cons (x : Int) (l : List Int) (P : List Int × List Int → Bool) : (splitsL (x :: l)).countP P = (splitsL l).countP (fun p => P (x :: p.1, p.2)) + (splitsL l).countP (fun p => P (p.1, x :: p.2)) := by
 have h : ∀ L : List (List Int × List Int), (L.flatMap fun p => [(x :: p.1, p.2), (p.1, x :: p.2)]).countP P = L.countP (fun p => P (x :: p.1, p.2)) + L.countP (fun p => P (p.1, x :: p.2)) := fun L => by
  induction L with
  | nil => rfl
  | cons p L ih =>
   rw [List.flatMap_cons, List.countP_append, ih]
   simp only [List.countP_cons, List.countP_nil]
   omega
 rw [splitsL, h]
theorem split_mem_perm : ∀ (l : List Int) (p : List Int × List Int), p ∈ splitsL l → (p.1 ++ p.2).Perm l
 | [], p, hp => by
  obtain rfl := List.mem_singleton.1 hp
  exact List.Perm.refl _
 | x :: l, p, hp => by
  obtain ⟨q, hq, hp⟩ := List.mem_flatMap.1 hp
  have ih := split_mem_perm l q hq
  rcases List.mem_cons.1 hp with rfl | hp
  · exact ih.cons x
  · obtain rfl := List.mem_singleton.1 hp
    exact (List.perm_middle).trans (ih.cons x)
theorem least_of {α : Type} (f : α → Int) : ∀ l : List α, l ≠ [] → ∃ m ∈ l, ∀ x ∈ l, f m ≤ f x
 | [], h => (h rfl).elim
 | [x], _ => ⟨x, by simp, fun y hy => by rw [List.mem_singleton.1 hy]; exact Int.le_refl _⟩
 | x :: y :: l, _ => by
  obtain ⟨m, hm, h⟩ := least_of f (y :: l) (by simp)
  by_cases c : f x ≤ f m
  · refine ⟨x, by simp, fun z hz => ?_⟩
    rcases List.mem_cons.1 hz with rfl | hz
    · exact Int.le_refl _
    · exact Int.le_trans c (h z hz)
  · refine ⟨m, List.mem_cons_of_mem _ hm, fun z hz => ?_⟩
    rcases List.mem_cons.1 hz with rfl | hz
    · omega
    · exact h z hz
theorem SmpOK.take {a : List Int} (h : SmpOK a) (n : Nat) (hn : 1 ≤ n) : SmpOK (a.take n) := ⟨by rw [List.length_take]; have := h.1; omega, by rw [List.length_take]; have := h.2.1; omega, fun x hx => h.2.2 x (List.mem_of_mem_take hx)⟩

end Go.Proofs.Ythddeillkdediaa.H

/- Plain law: samples that do not overlap. -/
namespace Go.Proofs.Ythddeillkdediaa.H
open Go.RowKit Go.Proofs.YthddeillkdediaaW.PrintWords Go.Proofs.YthddeillkdediaaW.PrintLast Go.Proofs.YthddeillkdediaaW.PrintMore
open Go.Shelf Go.Proofs.Ythddeillkdediaa.QA
set_option linter.unusedVariables false
set_option linter.unusedSimpArgs false


theorem scoreI_mono {x x' y y' : Int} (h1 : x' ≤ x) (h2 : y ≤ y') : scoreI x y ≤ scoreI x' y' := by
 unfold scoreI
 split <;> split <;> (try split) <;> (try split) <;> omega
theorem rowS_mono (x x' : Int) (hx : x' ≤ x) : ∀ b b' : List Int, b.length = b'.length → (∀ i : Nat, i < b.length → rd b (i : Int) ≤ rd b' (i : Int)) → rowS b x ≤ rowS b' x'
 | [], [], _, _ => by simp [rowS, sumI]
 | y :: b, y' :: b', hl, h => by
  have h0 : y ≤ y' := h 0 (by simp)
  have ih := rowS_mono x x' hx b b' (by simpa using hl) (fun i hi => by
   have := h (i + 1) (by simpa using hi)
   unfold rd at this ⊢
   simpa using this)
  have := scoreI_mono hx h0
  unfold rowS at ih ⊢
  simp only [List.map_cons, sumI]
  omega
theorem beats_mono (b b' : List Int) (hb : b.length = b'.length) (h : ∀ i : Nat, i < b.length → rd b (i : Int) ≤ rd b' (i : Int)) : ∀ a a' : List Int, a.length = a'.length → (∀ i : Nat, i < a.length → rd a' (i : Int) ≤ rd a (i : Int)) → beatsI a b ≤ beatsI a' b'
 | [], [], _, _ => by simp [beatsI, sumI]
 | x :: a, x' :: a', hl, ha => by
  have h0 : x' ≤ x := ha 0 (by simp)
  have ih := beats_mono b b' hb h a a' (by simpa using hl) (fun i hi => by
   have := ha (i + 1) (by simpa using hi)
   unfold rd at this ⊢
   simpa using this)
  have := rowS_mono x x' h0 b b' hb h
  rw [beatsI_rows] at ih ⊢
  rw [beatsI_rows] at ih ⊢
  simp only [List.map_cons, sumI]
  omega
/-- All pairs score two. -/
theorem sum_top {α : Type} (l : List α) (f : α → Int) (m : Int) (hf : ∀ x ∈ l, f x ≤ m) (h : m * l.length ≤ sumI (l.map f)) : ∀ x ∈ l, f x = m := by
 induction l with
 | nil => intro x hx; cases hx
 | cons y l ih =>
  have h1 := hf y (by simp)
  have h2 := sumI_in (l.map f) (sumI (l.map f) - m * l.length - 1000000) m
  have e : m * ((y :: l).length : Nat) = m * l.length + m := by rw [List.length_cons, Int.natCast_add, Int.mul_add]; simp
  have hle : sumI (l.map f) ≤ m * l.length := by
   have : ∀ l : List α, (∀ x ∈ l, f x ≤ m) → sumI (l.map f) ≤ m * l.length := fun l => by
    induction l with
    | nil => intro _; simp [sumI]
    | cons z l ih =>
     intro hz
     have a1 := hz z (by simp)
     have a2 := ih (fun x hx => hz x (by simp [hx]))
     have e : m * ((z :: l).length : Nat) = m * l.length + m := by rw [List.length_cons, Int.natCast_add, Int.mul_add]; simp
     rw [e]
     simp only [List.map_cons, sumI]
     omega
   exact this l (fun x hx => hf x (by simp [hx]))
  rw [e] at h
  simp only [List.map_cons, sumI] at h
  intro x hx
  rcases List.mem_cons.1 hx with rfl | hx
  · omega
  · exact ih (fun x hx => hf x (by simp [hx])) (by omega) x hx
theorem sum_bot {α : Type} (l : List α) (f : α → Int) (hf : ∀ x ∈ l, 0 ≤ f x) (h : sumI (l.map f) ≤ 0) : ∀ x ∈ l, f x = 0 := by
 have h1 := sum_top l (fun x => -f x) 0 (fun x hx => by have := hf x hx; omega) (by
  have e : sumI (l.map fun x => -f x) = -sumI (l.map f) := by
   clear hf h
   induction l with
   | nil => rfl
   | cons y l ih => simp only [List.map_cons, sumI, ih]; omega
  rw [e]
  omega)
 intro x hx
 have := h1 x hx
 omega
theorem rowS_le (b : List Int) (x : Int) : rowS b x ≤ 2 * b.length := (rowS_in b x).2
theorem beats_top {c d : List Int} (h : 2 * (c.length : Int) * d.length ≤ beatsI c d) : ∀ x ∈ c, ∀ y ∈ d, x < y := by
 rw [beatsI_rows] at h
 have h1 := sum_top c (rowS d) (2 * (d.length : Int)) (fun x _ => rowS_le d x) (by rw [show 2 * (d.length : Int) * (c.length : Int) = 2 * (c.length : Int) * (d.length : Int) by rw [Int.mul_assoc, Int.mul_comm (d.length : Int), ← Int.mul_assoc]]; exact h)
 intro x hx y hy
 have h2 := h1 x hx
 have h3 := sum_top d (fun y => scoreI x y) 2 (fun y _ => (scoreI_in x y).2) (by unfold rowS at h2; omega) y hy
 unfold scoreI at h3
 split at h3
 · assumption
 · split at h3 <;> omega
theorem beats_bot {c d : List Int} (h : beatsI c d ≤ 0) : ∀ x ∈ c, ∀ y ∈ d, y < x := by
 rw [beatsI_rows] at h
 have h1 := sum_bot c (rowS d) (fun x _ => (rowS_in d x).1) h
 intro x hx y hy
 have h2 := h1 x hx
 have h3 := sum_bot d (fun y => scoreI x y) (fun y _ => (scoreI_in x y).1) (by unfold rowS at h2; omega) y hy
 unfold scoreI at h3
 split at h3
 · omega
 · split at h3 <;> omega
theorem beats_all2 {c d : List Int} (h : ∀ x ∈ c, ∀ y ∈ d, x < y) : beatsI c d = 2 * (c.length : Int) * d.length := by
 unfold beatsI
 rw [sumI_congr c _ (fun _ => 2 * (d.length : Int)) (fun x hx => by
  rw [sumI_congr d _ (fun _ => (2 : Int)) (fun y hy => by unfold scoreI; rw [if_pos (h x hx y hy)]), sumI_const]), sumI_const, Int.mul_assoc, Int.mul_comm (d.length : Int), ← Int.mul_assoc]
/-- Just one choice takes what is below a threshold. -/
theorem cut_one (t : Int) : ∀ l : List Int, (splitsL l).countP (fun p => p.1.all (fun x => decide (x < t)) && p.2.all (fun y => decide (t ≤ y))) = 1
 | [] => rfl
 | x :: l => by
  have ih := cut_one t l
  rw [splits_cons]
  simp only [List.all_cons]
  by_cases h : x < t
  · have e2 : (splitsL l).countP (fun p => p.1.all (fun x => decide (x < t)) && (decide (t ≤ x) && p.2.all (fun y => decide (t ≤ y)))) = 0 := List.countP_eq_zero.2 fun p _ => by simp; omega
    rw [e2]
    simp only [decide_eq_true h, Bool.true_and]
    rw [ih]
  · have e2 : (splitsL l).countP (fun p => decide (x < t) && p.1.all (fun x => decide (x < t)) && p.2.all (fun y => decide (t ≤ y))) = 0 := List.countP_eq_zero.2 fun p _ => by simp; omega
    rw [e2]
    simp only [decide_eq_true (show t ≤ x by omega), Bool.true_and]
    rw [ih]
theorem cut_one' (t : Int) : ∀ l : List Int, (splitsL l).countP (fun p => p.1.all (fun x => decide (t ≤ x)) && p.2.all (fun y => decide (y < t))) = 1
 | [] => rfl
 | x :: l => by
  have ih := cut_one' t l
  rw [splits_cons]
  simp only [List.all_cons]
  by_cases h : t ≤ x
  · have e2 : (splitsL l).countP (fun p => p.1.all (fun x => decide (t ≤ x)) && (decide (x < t) && p.2.all (fun y => decide (y < t)))) = 0 := List.countP_eq_zero.2 fun p _ => by simp; omega
    rw [e2]
    simp only [decide_eq_true h, Bool.true_and]
    rw [ih]
  · have e2 : (splitsL l).countP (fun p => decide (t ≤ x) && p.1.all (fun x => decide (t ≤ x)) && p.2.all (fun y => decide (y < t))) = 0 := List.countP_eq_zero.2 fun p _ => by simp; omega
    rw [e2]
    simp only [decide_eq_true (show x < t by omega), Bool.true_and]
    rw [ih]
theorem perm_countP {l l' : List Int} (h : l.Perm l') (q : Int → Bool) : l.countP q = l'.countP q := h.countP_eq q
theorem all_of_count {l : List Int} {q : Int → Bool} (h : l.countP q = l.length) : ∀ x ∈ l, q x = true := List.countP_eq_length.1 h
theorem none_of_count {l : List Int} {q : Int → Bool} (h : l.countP q = 0) : ∀ x ∈ l, ¬ q x = true := List.countP_eq_zero.1 h
theorem some_of_count {l : List Int} {q : Int → Bool} (h : l.countP q < l.length) : ∃ x ∈ l, ¬ q x = true := by
 refine Classical.byContradiction fun hc => ?_
 have : l.countP q = l.length := List.countP_eq_length.2 fun x hx => Classical.byContradiction fun hq => hc ⟨x, hx, hq⟩
 omega
/-- All of the first sample below a threshold, all of the second one not: the choices with the most beats. -/
theorem far_many (a b : List Int) (t : Int) (ha : ∀ x ∈ a, x < t) (hb : ∀ y ∈ b, t ≤ y) : cntB a b (fun x => decide (2 * (a.length : Int) * b.length ≤ x)) = 1 := by
 rw [← cut_one t (a ++ b)]
 unfold cntB
 refine List.countP_congr fun p hp => ?_
 have hl := splits_len _ _ hp
 have hpm := split_mem_perm _ _ hp
 rw [List.length_append] at hl
 simp only [Bool.and_eq_true, decide_eq_true_eq, List.all_eq_true]
 have hcnt : (p.1).countP (fun x => decide (t ≤ x)) + (p.2).countP (fun x => decide (t ≤ x)) = b.length := by
  rw [← List.countP_append, perm_countP hpm, List.countP_append]
  have e1 : a.countP (fun x => decide (t ≤ x)) = 0 := List.countP_eq_zero.2 fun x hx => by have := ha x hx; simp; omega
  have e2 : b.countP (fun x => decide (t ≤ x)) = b.length := List.countP_eq_length.2 fun x hx => by simp [hb x hx]
  omega
 constructor
 · rintro ⟨h1, h2⟩
   have h3 : p.2.length = b.length := by omega
   have h4 := beats_top (c := p.1) (d := p.2) (by rw [h1, h3]; exact h2)
   by_cases h5 : (p.2).countP (fun x => decide (t ≤ x)) = p.2.length
   · have h6 := all_of_count h5
     have h7 := none_of_count (show (p.1).countP (fun x => decide (t ≤ x)) = 0 by omega)
     refine ⟨fun x hx => ?_, fun y hy => ?_⟩
     · have := h7 x hx
       simp at this
       exact this
     · simpa using h6 y hy
   · have h6 := List.countP_le_length (p := fun x => decide (t ≤ x)) (l := p.2)
     obtain ⟨y, hy, hyt⟩ := some_of_count (show (p.2).countP (fun x => decide (t ≤ x)) < p.2.length by omega)
     obtain ⟨x, hx, hxt⟩ := List.countP_pos_iff.1 (show 0 < (p.1).countP (fun x => decide (t ≤ x)) by omega)
     have := h4 x hx y hy
     simp at hxt hyt
     omega
 · rintro ⟨h1, h2⟩
   have e1 : (p.1).countP (fun x => decide (t ≤ x)) = 0 := List.countP_eq_zero.2 fun x hx => by have := h1 x hx; simp; omega
   have e2 : (p.2).countP (fun x => decide (t ≤ x)) = p.2.length := List.countP_eq_length.2 fun x hx => by simp [h2 x hx]
   have h3 : p.2.length = b.length := by omega
   have h4 : p.1.length = a.length := by omega
   refine ⟨h4, ?_⟩
   rw [beats_all2 (fun x hx y hy => by have := h1 x hx; have := h2 y hy; omega), h3, h4]
   exact Int.le_refl _
theorem far_few (a b : List Int) (ha : a ≠ []) : cntB a b (fun x => decide (x ≤ 0)) ≤ 1 := by
 by_cases h0 : cntB a b (fun x => decide (x ≤ 0)) = 0
 · omega
 · obtain ⟨p0, hp0, hq0⟩ := List.countP_pos_iff.1 (show 0 < cntB a b (fun x => decide (x ≤ 0)) by omega)
   simp only [Bool.and_eq_true, decide_eq_true_eq] at hq0
   have hb0 := beats_bot hq0.2
   have hne : p0.1 ≠ [] := fun e => ha (List.length_eq_zero_iff.1 (by rw [← hq0.1, e]; rfl))
   obtain ⟨t, ht, hmin⟩ := least_of (fun x : Int => x) p0.1 hne
   have hP0 := split_mem_perm _ _ hp0
   have hcnt0 : (a ++ b).countP (fun x => decide (t ≤ x)) = a.length := by
    rw [← perm_countP hP0, List.countP_append]
    have e1 : (p0.1).countP (fun x => decide (t ≤ x)) = p0.1.length := List.countP_eq_length.2 fun x hx => by simp; exact hmin x hx
    have e2 : (p0.2).countP (fun x => decide (t ≤ x)) = 0 := List.countP_eq_zero.2 fun y hy => by have := hb0 t ht y hy; simp; omega
    omega
   rw [← cut_one' t (a ++ b)]
   unfold cntB
   refine List.countP_mono_left fun p hp hq => ?_
   have hpm := split_mem_perm _ _ hp
   simp only [Bool.and_eq_true, decide_eq_true_eq, List.all_eq_true] at hq ⊢
   have h4 := beats_bot hq.2
   have hcnt : (p.1).countP (fun x => decide (t ≤ x)) + (p.2).countP (fun x => decide (t ≤ x)) = a.length := by
    rw [← List.countP_append, perm_countP hpm, hcnt0]
   by_cases h5 : (p.1).countP (fun x => decide (t ≤ x)) = p.1.length
   · have h6 := all_of_count h5
     have h7 := none_of_count (show (p.2).countP (fun x => decide (t ≤ x)) = 0 by omega)
     refine ⟨fun x hx => by simpa using h6 x hx, fun y hy => ?_⟩
     have := h7 y hy
     simp at this
     exact this
   · have h6 := List.countP_le_length (p := fun x => decide (t ≤ x)) (l := p.1)
     obtain ⟨x, hx, hxt⟩ := some_of_count (show (p.1).countP (fun x => decide (t ≤ x)) < p.1.length by omega)
     obtain ⟨y, hy, hyt⟩ := List.countP_pos_iff.1 (show 0 < (p.2).countP (fun x => decide (t ≤ x)) by omega)
     have := h4 x hx y hy
     simp at hxt hyt
     omega
/-- Samples that do not overlap. -/
theorem farthest (a b : List Int) (t : Int) (ha0 : a ≠ []) (hb0 : b ≠ []) (ha : ∀ x ∈ a, x < t) (hb : ∀ y ∈ b, t ≤ y) :
  cntB a b (fun x => decide (x ≤ beatsI a b)) = cntB a b (fun _ => true) ∧ cntB a b (fun x => decide (beatsI a b ≤ x)) = 1 ∧
  (cntB a b (fun x => decide (farI (beatsI a b) ((a.length : Int) * b.length) ≤ farI x ((a.length : Int) * b.length))) = 1 ∨ cntB a b (fun x => decide (farI (beatsI a b) ((a.length : Int) * b.length) ≤ farI x ((a.length : Int) * b.length))) = 2) := by
 have hB : beatsI a b = 2 * (a.length : Int) * b.length := beats_all2 fun x hx y hy => by have := ha x hx; have := hb y hy; omega
 have hm := far_many a b t ha hb
 have hf := far_few a b ha0
 have hla : 0 < a.length := List.length_pos_iff.2 ha0
 have hlb : 0 < b.length := List.length_pos_iff.2 hb0
 have hM0 : 0 < (a.length : Int) * (b.length : Int) := Int.mul_pos (by omega) (by omega)
 obtain ⟨M, hM⟩ : ∃ M, M = (a.length : Int) * (b.length : Int) := ⟨_, rfl⟩
 have h2 : 2 * (a.length : Int) * (b.length : Int) = 2 * M := by rw [Int.mul_assoc, ← hM]
 rw [hB, h2]
 rw [h2] at hm
 rw [← hM] at hM0 ⊢
 refine ⟨?_, hm, ?_⟩
 · unfold cntB
   refine List.countP_congr fun p hp => ?_
   have hl := splits_len _ _ hp
   rw [List.length_append] at hl
   simp only [Bool.and_eq_true, decide_eq_true_eq, and_true]
   refine ⟨fun h => h.1, fun h => ⟨h, ?_⟩⟩
   have h3 := (beats_in p.1 p.2).2
   rw [h, show p.2.length = b.length by omega, h2] at h3
   exact h3
 · have e : cntB a b (fun x => decide (farI (2 * M) M ≤ farI x M)) = cntB a b (fun x => decide (2 * M ≤ x)) + cntB a b (fun x => decide (x ≤ 0)) := by
    unfold cntB
    generalize splitsL (a ++ b) = S
    induction S with
    | nil => rfl
    | cons p S ih =>
     simp only [List.countP_cons]
     dsimp only at ih ⊢
     have : (if (decide (p.1.length = a.length) && decide (farI (2 * M) M ≤ farI (beatsI p.1 p.2) M)) = true then 1 else 0) = (if (decide (p.1.length = a.length) && decide (2 * M ≤ beatsI p.1 p.2)) = true then 1 else 0) + (if (decide (p.1.length = a.length) && decide (beatsI p.1 p.2 ≤ 0)) = true then 1 else 0) := by
      by_cases c : p.1.length = a.length
      · simp only [c, decide_true, Bool.true_and, decide_eq_true_eq]
        generalize beatsI p.1 p.2 = y
        have hfar : farI (2 * M) M ≤ farI y M ↔ (2 * M ≤ y ∨ y ≤ 0) := by
         unfold farI mx
         split <;> split <;> omega
        by_cases c1 : 2 * M ≤ y
        · rw [if_pos (hfar.2 (.inl c1)), if_pos c1, if_neg (by omega)]
        · by_cases c2 : y ≤ 0
          · rw [if_pos (hfar.2 (.inr c2)), if_neg c1, if_pos c2]
          · rw [if_neg (fun h => (hfar.1 h).elim c1 c2), if_neg c1, if_neg c2]
      · simp [c]
     omega
   rw [e, hm]
   omega

end Go.Proofs.Ythddeillkdediaa.H
