/- Texts PW, PX, PZ of this chapter, one behind the other. -/
import Derived.Test.YthddeillkdediaaQA4
import Derived.Test.YthddeillkdediaaQA5
import Derived.Test.YthddeillkdediaaXI

/- Plain facts for the statements without the reference: samples, choices by bits, fractions. -/
namespace Go.Proofs.Ythddeillkdediaa.H
open Go.RowKit Go.Proofs.YthddeillkdediaaW.PrintWords Go.Proofs.YthddeillkdediaaW.PrintLast Go.Proofs.YthddeillkdediaaW.PrintMore
open Go.Shelf Go.Proofs.Ythddeillkdediaa.QA
set_option linter.unusedVariables false
set_option linter.unusedSimpArgs false


theorem and_oneN (i : Nat) (hi : i < 9223372036854775808) : bits BinOp.and IntKind.i64 (i : Int) 1 = ((i % 2 : Nat) : Int) := by
  have two63 : (2 : Int) ^ 63 = 9223372036854775808 := by decide
  have h := bits_mask .i64 63 (by decide) (fun n h0 h1 => by rw [two63] at h1; rw [IntKind.wrap_i64]; omega) 1 (by decide) (i : Int) (by omega) (by rw [two63]; omega)
  have e : ((2 : Int) ^ 1 - 1) = 1 := by decide
  rw [e] at h
  rw [h]
  omega
theorem tmod_nat (x y : Nat) : Int.tmod (x : Int) (y : Int) = ((x % y : Nat) : Int) := rfl
/-- What a sample of a statement is like. -/
def SmpOK (r : List Int) : Prop := 1 ≤ r.length ∧ r.length ≤ 5 ∧ ∀ x ∈ r, -3 ≤ x ∧ x ≤ 63
theorem sampled_l (l : List Int) (hl : ∀ x ∈ l, 0 ≤ x ∧ x ≤ 255) (wd : Nat) (hw : wd ≤ 255) : ∀ (m k i : Nat) (out : List Int), 5 - i = m → i = out.length → i ≤ 5 → (∀ x ∈ out, -3 ≤ x ∧ x ≤ 63) → m + 2 ≤ k → ∃ r, pianolalaw10_sampled.l0 k l (wd : Int) out (i : Int) = some r ∧ SmpOK r := by
 have hend : ∀ out : List Int, out.length ≤ 5 → (∀ x ∈ out, -3 ≤ x ∧ x ≤ 63) → ∃ r, (if (out.length : Int) = 0 then (if out.length < 17592186044416 then some (out ++ [1]) else none) else some out) = some r ∧ SmpOK r := fun out h1 h2 => by
  by_cases c : (out.length : Int) = 0
  · rw [if_pos c, if_pos (by omega)]
    have : out = [] := List.length_eq_zero_iff.1 (by omega)
    subst this
    exact ⟨_, rfl, by simp, by simp, by simp⟩
  · rw [if_neg c]
    exact ⟨_, rfl, by omega, h1, h2⟩
 intro m
 induction m with
 | zero =>
  intro k i out h1 h2 h3 h4 h5
  obtain ⟨k, rfl⟩ : ∃ k', k = k' + 1 := ⟨k - 1, by omega⟩
  unfold pianolalaw10_sampled.l0
  by_cases c : (i : Int) < (l.length : Int)
  · rw [if_pos c, if_neg (by omega)]
    exact hend out (by omega) h4
  · rw [if_neg c]
    exact hend out (by omega) h4
 | succ m ih =>
  intro k i out h1 h2 h3 h4 h5
  obtain ⟨k, rfl⟩ : ∃ k', k = k' + 1 := ⟨k - 1, by omega⟩
  unfold pianolalaw10_sampled.l0
  by_cases c : (i : Int) < (l.length : Int)
  · have hwm : wrap64 (2 + Int.tmod (wd : Int) 64) = ((2 + wd % 64 : Nat) : Int) := by
     rw [show (64 : Int) = ((64 : Nat) : Int) from rfl, tmod_nat, w64' _ (by omega) (by omega)]; push_cast; rfl
    have hx := hl _ (rd_mem l (show i < l.length by omega))
    obtain ⟨v, hv⟩ : ∃ v : Nat, rd l (i : Int) = (v : Int) := ⟨(rd l (i : Int)).toNat, by omega⟩
    rw [hv] at hx
    have hmod : v % (2 + wd % 64) < 2 + wd % 64 := Nat.mod_lt _ (by omega)
    rw [if_pos c, if_pos (by omega), if_pos (by omega), hwm, if_neg (by omega), if_pos (by omega), hv, w64' (v : Int) (by omega) (by omega), tmod_nat, w64' (((v % (2 + wd % 64) : Nat) : Int) - 3) (by omega) (by omega), wrap_up i (by omega)]
    exact ih k (i + 1) _ (by omega) (by simp [h2]) (by omega) (fun x hx => by
     rcases List.mem_append.1 hx with h | h
     · exact h4 x h
     · rw [List.mem_singleton.1 h]; omega) (by omega)
  · rw [if_neg c]
    exact hend out (by omega) h4
theorem sampled_f (l : List Int) (hl : ∀ x ∈ l, 0 ≤ x ∧ x ≤ 255) (wd : Int) (hw : 0 ≤ wd ∧ wd ≤ 255) (k : Nat) (hk : 10 ≤ k) : ∃ r, pianolalaw10_sampled.f k l wd = some r ∧ SmpOK r := by
 obtain ⟨n, rfl⟩ : ∃ n : Nat, wd = (n : Int) := ⟨wd.toNat, by omega⟩
 unfold pianolalaw10_sampled.f
 exact sampled_l l hl n (by omega) 5 k 0 [] rfl rfl (by omega) (by simp) (by omega)
theorem made_f (l m : List Int) (hl : ∀ x ∈ l, 0 ≤ x ∧ x ≤ 255) (hm : ∀ x ∈ m, 0 ≤ x ∧ x ≤ 255) (wd : Int) (hw : 0 ≤ wd ∧ wd ≤ 255) (k : Nat) (hk : 10 ≤ k) : ∃ a b, pianolalaw10_Touch_made.f k l m wd = some (a, b) ∧ SmpOK a ∧ SmpOK b := by
 unfold pianolalaw10_Touch_made.f
 rw [w64' wd (by omega) (by omega)]
 obtain ⟨a, ha, h1⟩ := sampled_f l hl wd hw k hk
 obtain ⟨b, hb, h2⟩ := sampled_f m hm wd hw k hk
 rw [ha, hb]
 exact ⟨a, b, rfl, h1, h2⟩
theorem SmpOK.chk {r : List Int} (h : SmpOK r) : chk r = 0 := by
 unfold H.chk
 rw [if_neg (by have := h.1; omega), if_neg (by have := h.2.1; omega), if_neg]
 rw [List.any_eq_true]
 rintro ⟨x, hx, hg⟩
 have := h.2.2 x hx
 unfold goodB isIn at hg
 simp at hg
 omega
theorem smp_both {a b : List Int} (ha : SmpOK a) (hb : SmpOK b) : bothI a b = 0 := by unfold bothI; rw [if_pos ha.chk, hb.chk]
theorem lfar_f (x y : Int) (hx : -1000000000 ≤ x ∧ x ≤ 1000000000) (hy : -1000000000 ≤ y ∧ y ≤ 1000000000) : pianolalaw10_far.f x y = some (farI x y) := by
 unfold pianolalaw10_far.f farI
 rw [w64' (x - y) (by omega) (by omega), w64' (y - x) (by omega) (by omega)]
theorem lowest_l (s t : Nat) (p q : Int) (ht : 0 < t) (hs : s ≤ 4611686018427387904) (ht2 : t ≤ 4611686018427387904) : ∀ (n x y k : Nat), y < 2 ^ n → 2 * n + 1 ≤ k → Nat.gcd x y = Nat.gcd s t → 0 < x →
  pianolalaw10_lowest.l0 k (s : Int) (t : Int) (x : Int) (y : Int) p q = some (p == (lowI s t).1 && (q == (lowI s t).2)) := by
 have hend : ∀ (x k : Nat), Nat.gcd x 0 = Nat.gcd s t → 0 < x → pianolalaw10_lowest.l0 (k + 1) (s : Int) (t : Int) (x : Int) ((0 : Nat) : Int) p q = some (p == (lowI s t).1 && (q == (lowI s t).2)) := fun x k hg hx => by
  unfold pianolalaw10_lowest.l0
  rw [if_neg (by omega), if_neg (by omega)]
  rw [Nat.gcd_zero_right] at hg
  have e1 : Int.tdiv (s : Int) (x : Int) = ((s / x : Nat) : Int) := rfl
  have e2 : Int.tdiv (t : Int) (x : Int) = ((t / x : Nat) : Int) := rfl
  have b1 := Nat.div_le_self s x
  have b2 := Nat.div_le_self t x
  rw [e1, e2]
  unfold lowI
  rw [← hg]
  generalize s / x = p1 at b1 ⊢
  generalize t / x = p2 at b2 ⊢
  rw [w64' _ (by omega) (by omega), w64' _ (by omega) (by omega)]
 have hstep : ∀ (x y k : Nat), 0 < y → pianolalaw10_lowest.l0 (k + 1) (s : Int) (t : Int) (x : Int) (y : Int) p q = pianolalaw10_lowest.l0 k (s : Int) (t : Int) (y : Int) ((x % y : Nat) : Int) p q := fun x y k hy => by
  rw [pianolalaw10_lowest.l0, if_pos (by omega), if_neg (by omega)]
  rfl
 have hgcd : ∀ x y : Nat, Nat.gcd y (x % y) = Nat.gcd x y := fun x y => by rw [Nat.gcd_comm x y, Nat.gcd_rec y x, Nat.gcd_comm]
 intro n
 induction n with
 | zero =>
  intro x y k hy hk hg hx
  obtain rfl : y = 0 := by simpa using hy
  obtain ⟨k, rfl⟩ : ∃ k', k = k' + 1 := ⟨k - 1, by omega⟩
  exact hend x k hg hx
 | succ n ih =>
  intro x y k hy hk hg hx
  obtain ⟨k, rfl⟩ : ∃ k', k = k' + 1 + 1 := ⟨k - 2, by omega⟩
  by_cases h0 : y = 0
  · subst h0
    exact hend x (k + 1) hg hx
  · have hy0 : 0 < y := by omega
    rw [hstep x y (k + 1) hy0]
    have hr := Nat.mod_lt x hy0
    by_cases h1 : x % y = 0
    · rw [h1]
      exact hend y k (by rw [← h1, hgcd, hg]) hy0
    · have hr0 : 0 < x % y := by omega
      rw [hstep y (x % y) k hr0]
      refine ih (x % y) (y % (x % y)) k ?_ (by omega) (by rw [hgcd, hgcd, hg]) hr0
      have h2 := Nat.mod_lt y hr0
      have h3 : y % (x % y) + (x % y) ≤ y := by
       have h4 := Nat.mod_add_div y (x % y)
       have h5 : 0 < y / (x % y) := Nat.div_pos (Nat.le_of_lt hr) hr0
       have h6 : (x % y) * 1 ≤ (x % y) * (y / (x % y)) := Nat.mul_le_mul_left _ h5
       omega
      rw [Nat.pow_succ] at hy
      omega
theorem lowest_f (s t k : Nat) (p q : Int) (ht : 0 < t) (hs : s ≤ 4294967296) (ht2 : t ≤ 4294967296) (hk : 200 ≤ k) : pianolalaw10_lowest.f k p q (s : Int) (t : Int) = some (p == (lowI s t).1 && (q == (lowI s t).2)) := by
 unfold pianolalaw10_lowest.f
 by_cases h0 : s = 0
 · subst h0
   obtain ⟨k, rfl⟩ : ∃ k', k = k' + 1 := ⟨k - 1, by omega⟩
   rw [pianolalaw10_lowest.l0, if_pos (by omega), if_neg (by omega)]
   have e : Int.tmod ((0 : Nat) : Int) (t : Int) = ((0 % t : Nat) : Int) := rfl
   rw [e, Nat.zero_mod]
   exact lowest_l 0 t p q ht (by omega) (by omega) 0 t 0 k (by omega) (by omega) (by rw [Nat.gcd_zero_right, Nat.gcd_zero_left]) ht
 · exact lowest_l s t p q ht (by omega) (by omega) 33 s t k (by omega) (by omega) rfl (by omega)
theorem range_double (n : Nat) (f : Nat → Bool) : (List.range (2 * n)).countP f = (List.range n).countP (fun b => f (2 * b)) + (List.range n).countP (fun b => f (2 * b + 1)) := by
 induction n with
 | zero => rfl
 | succ n ih =>
  rw [show 2 * (n + 1) = 2 * n + 1 + 1 by omega, List.range_succ, List.range_succ, List.range_succ]
  simp only [List.countP_append, List.countP_cons, List.countP_nil]
  rw [ih]
  omega
end Go.Proofs.Ythddeillkdediaa.H

/- Plain law: chances of choices, and levels. -/
namespace Go.Proofs.Ythddeillkdediaa.H
open Go.RowKit Go.Proofs.YthddeillkdediaaW.PrintWords Go.Proofs.YthddeillkdediaaW.PrintLast Go.Proofs.YthddeillkdediaaW.PrintMore
open Go.Shelf Go.Proofs.Ythddeillkdediaa.QA
set_option linter.unusedVariables false
set_option linter.unusedSimpArgs false


theorem lowI_facts (s t : Nat) (ht : 0 < t) (hs : s ≤ t) : 1 ≤ (lowI s t).2 ∧ (lowI s t).2 ≤ t ∧ 0 ≤ (lowI s t).1 ∧ (lowI s t).1 ≤ (lowI s t).2 := by
 unfold lowI
 have hg := Nat.gcd_pos_of_pos_right s ht
 have hd : Nat.gcd s t ≤ t := Nat.gcd_le_right s ht
 have h1 : 0 < t / Nat.gcd s t := Nat.div_pos hd hg
 have h2 := Nat.div_le_self t (Nat.gcd s t)
 have h3 : s / Nat.gcd s t ≤ t / Nat.gcd s t := Nat.div_le_div_right hs
 simp only
 generalize t / Nat.gcd s t = u at *
 generalize s / Nat.gcd s t = v at *
 omega
/-- A fraction in lowest terms is at most another one just if the fraction itself is. -/
theorem lowI_le (s t : Nat) (ht : 0 < t) (n d : Int) : ((lowI s t).1 * d ≤ n * (lowI s t).2) ↔ ((s : Int) * d ≤ n * (t : Int)) := by
 obtain ⟨g, hg⟩ : ∃ g, g = Nat.gcd s t := ⟨_, rfl⟩
 have hg0 : 0 < g := by rw [hg]; exact Nat.gcd_pos_of_pos_right s ht
 have e1 : s = s / g * g := by rw [hg]; exact (Nat.div_mul_cancel (Nat.gcd_dvd_left s t)).symm
 have e2 : t = t / g * g := by rw [hg]; exact (Nat.div_mul_cancel (Nat.gcd_dvd_right s t)).symm
 unfold lowI
 rw [← hg]
 simp only
 obtain ⟨p, hp⟩ : ∃ p, p = s / g := ⟨_, rfl⟩
 obtain ⟨q, hq⟩ : ∃ q, q = t / g := ⟨_, rfl⟩
 rw [← hp] at e1 ⊢
 rw [← hq] at e2 ⊢
 have e3 : (s : Int) * d = (p : Int) * d * (g : Int) := by rw [e1]; push_cast; rw [Int.mul_assoc, Int.mul_comm (g : Int), ← Int.mul_assoc]
 have e4 : n * (t : Int) = n * (q : Int) * (g : Int) := by rw [e2]; push_cast; rw [← Int.mul_assoc]
 rw [e3, e4]
 have hgi : (0 : Int) < (g : Int) := by omega
 exact ⟨fun h => Int.mul_le_mul_of_nonneg_right h (by omega), fun h => Int.le_of_mul_le_mul_right h hgi⟩
theorem least_of {α : Type} (f : α → Int) : ∀ l : List α, l ≠ [] → ∃ m ∈ l, ∀ x ∈ l, f m ≤ f x
 | [], h => (h rfl).elim
 | [x], _ => ⟨x, by simp, fun y hy => by rw [List.mem_singleton.1 hy]; exact Int.le_refl _⟩
 | x :: y :: l, _ => by
  obtain ⟨m, hm, h⟩ := least_of f (y :: l) (by simp)
  by_cases c : f x ≤ f m
  · refine ⟨x, by simp, fun z hz => ?_⟩
    rcases List.mem_cons.1 hz with rfl | hz
    · exact Int.le_refl _
    · exact Int.le_trans c (h z hz)
  · refine ⟨m, List.mem_cons_of_mem _ hm, fun z hz => ?_⟩
    rcases List.mem_cons.1 hz with rfl | hz
    · omega
    · exact h z hz
/-- Whoever is as far out as few are, is one of few. -/
theorem rare {α : Type} (S : List α) (f : α → Int) (den B : Int) (hB : 0 ≤ B) (hd : 0 ≤ den) : ((S.countP fun s => decide (((S.countP fun t => decide (f s ≤ f t) : Nat) : Int) * den ≤ B) : Nat) : Int) * den ≤ B := by
 obtain ⟨R, hR⟩ : ∃ R : α → Bool, R = fun s => decide (((S.countP fun t => decide (f s ≤ f t) : Nat) : Int) * den ≤ B) := ⟨_, rfl⟩
 rw [← hR]
 by_cases h : S.filter R = []
 · have : S.countP R = 0 := by rw [List.countP_eq_length_filter, h]; rfl
   rw [this]
   simp [hB]
 · obtain ⟨m, hm, hmin⟩ := least_of f _ h
   obtain ⟨hmS, hmR⟩ := List.mem_filter.1 hm
   rw [hR] at hmR
   have hmR := of_decide_eq_true hmR
   have hle : S.countP R ≤ S.countP (fun t => decide (f m ≤ f t)) := List.countP_mono_left fun t ht hRt => decide_eq_true (hmin t (List.mem_filter.2 ⟨ht, hRt⟩))
   exact Int.le_trans (Int.mul_le_mul_of_nonneg_right (by omega) hd) hmR
theorem SmpOK.of_mem {a b c : List Int} (ha : SmpOK a) (hb : SmpOK b) (hc : ∀ x ∈ c, x ∈ a ++ b) (h1 : 1 ≤ c.length) (h5 : c.length ≤ 5) : SmpOK c :=
 ⟨h1, h5, fun x hx => by
  rcases List.mem_append.1 (hc x hx) with h | h
  · exact ha.2.2 x h
  · exact hb.2.2 x h⟩
theorem SmpOK.take {a : List Int} (h : SmpOK a) (n : Nat) (hn : 1 ≤ n) : SmpOK (a.take n) := ⟨by rw [List.length_take]; have := h.1; omega, by rw [List.length_take]; have := h.2.1; omega, fun x hx => h.2.2 x (List.mem_of_mem_take hx)⟩

end Go.Proofs.Ythddeillkdediaa.H

/- Plain law: swaps. -/
namespace Go.Proofs.Ythddeillkdediaa.H
open Go.RowKit Go.Proofs.YthddeillkdediaaW.PrintWords Go.Proofs.YthddeillkdediaaW.PrintLast Go.Proofs.YthddeillkdediaaW.PrintMore
open Go.Shelf Go.Proofs.Ythddeillkdediaa.QA
set_option linter.unusedVariables false
set_option linter.unusedSimpArgs false


theorem dotI_snoc : ∀ (ss rs : List Int) (s r : Int), ss.length = rs.length → dotI (ss ++ [s]) (rs ++ [r]) = dotI ss rs + s * r
 | [], [], s, r, _ => by simp [dotI]
 | x :: ss, y :: rs, s, r, h => by
  have ih := dotI_snoc ss rs s r (by simpa using h)
  simp only [List.cons_append, dotI, ih]
  omega
theorem sg_l1 (a b : List Int) (hl : a.length = b.length) (h5 : a.length ≤ 5) (ga : ∀ x ∈ a, -1000 ≤ x ∧ x ≤ 1000) (gb : ∀ x ∈ b, -1000 ≤ x ∧ x ≤ 1000) (S : Int) (i : Nat) (hi : i < a.length) : ∀ (m k j : Nat), a.length - j = m → j ≤ a.length →
  pianolalaw10_signed.l1 (k + (m + 1)) a b S (i : Int) (rd a (i : Int)) (1 + sumI ((dfI ((pairsL a b).take j)).map fun x => scoreI x (farI (rd a (i : Int)) (rd b (i : Int))))) a (a.length : Int) (i : Int) a (a.length : Int) (j : Int)
   = if rd a (i : Int) < rd b (i : Int) then pianolalaw10_signed.l0 k a b (wrap64 (S + rankI (dfI (pairsL a b)) (farI (rd a (i : Int)) (rd b (i : Int))))) a (a.length : Int) ((i + 1 : Nat) : Int) else pianolalaw10_signed.l0 k a b (wrap64 (S - rankI (dfI (pairsL a b)) (farI (rd a (i : Int)) (rd b (i : Int))))) a (a.length : Int) ((i + 1 : Nat) : Int) := by
 have hzl : (pairsL a b).length = a.length := by unfold pairsL; rw [List.length_zip]; omega
 have gi := ga _ (rd_mem a hi)
 have gi2 := gb _ (rd_mem b (show i < b.length by omega))
 intro m
 induction m with
 | zero =>
  intro k j h1 h2
  obtain rfl : j = a.length := by omega
  rw [show k + (0 + 1) = k + 1 by omega]
  unfold pianolalaw10_signed.l1
  rw [if_neg (by omega), if_pos (by omega), if_pos (by omega), wrap_up i (by omega)]
  have e : (pairsL a b).take a.length = pairsL a b := by rw [← hzl, List.take_length]
  rw [e]
  rfl
 | succ m ih =>
  intro k j h1 h2
  have hlt : j < a.length := by omega
  have h4 := ih k (j + 1) (by omega) hlt
  have hz := zip_take a b hlt (by omega)
  unfold pairsL at h4 hz ⊢
  rw [hz, dfI_snoc, List.map_append, sumI_append] at h4
  have hsc := scoresI_in (dfI ((a.zip b).take j)) (farI (rd a (i : Int)) (rd b (i : Int)))
  have hdl := (dfI_len ((a.zip b).take j)).2
  rw [List.length_take] at hdl
  have gj := ga _ (rd_mem a hlt)
  have gj2 := gb _ (rd_mem b (show j < b.length by omega))
  rw [show k + (m + 1 + 1) = (k + (m + 1)) + 1 by omega]
  unfold pianolalaw10_signed.l1
  rw [if_pos (by omega), if_pos (by omega), if_pos (by omega), if_pos (by omega), wrap_up j (by omega)]
  by_cases c : rd a (j : Int) = rd b (j : Int)
  · rw [if_pos c]
    rw [if_pos c, List.map_nil, show sumI [] = 0 from rfl, Int.add_zero] at h4
    exact h4
  · rw [if_neg c, lfar_f _ _ (by omega) (by omega), Option.bind_some, if_pos (by omega), if_pos (by omega), lfar_f _ _ (by omega) (by omega), Option.bind_some]
    rw [if_neg c, List.map_cons, List.map_nil] at h4
    simp only [sumI, Int.add_zero] at h4
    by_cases c1 : farI (rd a (j : Int)) (rd b (j : Int)) < farI (rd a (i : Int)) (rd b (i : Int))
    · rw [if_pos c1, w64' _ (by omega) (by omega)]
      rw [show scoreI (farI (rd a (j : Int)) (rd b (j : Int))) (farI (rd a (i : Int)) (rd b (i : Int))) = 2 by unfold scoreI; rw [if_pos c1], ← Int.add_assoc] at h4
      exact h4
    · rw [if_neg c1, Option.bind_some]
      by_cases c2 : farI (rd a (j : Int)) (rd b (j : Int)) = farI (rd a (i : Int)) (rd b (i : Int))
      · rw [if_pos c2, w64' _ (by omega) (by omega)]
        rw [show scoreI (farI (rd a (j : Int)) (rd b (j : Int))) (farI (rd a (i : Int)) (rd b (i : Int))) = 1 by unfold scoreI; rw [if_neg c1, if_pos c2], ← Int.add_assoc] at h4
        exact h4
      · rw [if_neg c2]
        rw [show scoreI (farI (rd a (j : Int)) (rd b (j : Int))) (farI (rd a (i : Int)) (rd b (i : Int))) = 0 by unfold scoreI; rw [if_neg c1, if_neg c2], Int.add_zero] at h4
        exact h4
theorem sg_l0 (a b : List Int) (hl : a.length = b.length) (h5 : a.length ≤ 5) (ga : ∀ x ∈ a, -1000 ≤ x ∧ x ≤ 1000) (gb : ∀ x ∈ b, -1000 ≤ x ∧ x ≤ 1000) : ∀ (m k i : Nat), a.length - i = m → i ≤ a.length → m * 7 + 1 ≤ k →
  pianolalaw10_signed.l0 k a b (dotI (sgI ((pairsL a b).take i)) ((dfI ((pairsL a b).take i)).map (rankI (dfI (pairsL a b))))) a (a.length : Int) (i : Int) = some (psum a b) := by
 have hzl : (pairsL a b).length = a.length := by unfold pairsL; rw [List.length_zip]; omega
 intro m
 induction m with
 | zero =>
  intro k i h1 h2 h3
  obtain rfl : i = a.length := by omega
  obtain ⟨k, rfl⟩ : ∃ k', k = k' + 1 := ⟨k - 1, by omega⟩
  unfold pianolalaw10_signed.l0
  rw [if_neg (by omega), ← hzl, List.take_length]
  rfl
 | succ m ih =>
  intro k i h1 h2 h3
  have hlt : i < a.length := by omega
  obtain ⟨k, rfl⟩ : ∃ k', k = k' + 1 := ⟨k - 1, by omega⟩
  have hz := zip_take a b hlt (by omega)
  have hdl := dfI_len ((pairsL a b).take i)
  rw [List.length_take] at hdl
  have hD := dfI_len (pairsL a b)
  rw [hzl] at hD
  have hdot := dotI_in 11 (sgI ((pairsL a b).take i)) ((dfI ((pairsL a b).take i)).map (rankI (dfI (pairsL a b)))) (sgI_in _) (fun r hr => by
   obtain ⟨x, _, rfl⟩ := List.mem_map.1 hr
   have := rankI_in (dfI (pairsL a b)) x
   omega) (by omega)
  rw [List.length_map] at hdot
  have hri := rankI_in (dfI (pairsL a b)) (farI (rd a (i : Int)) (rd b (i : Int)))
  unfold pianolalaw10_signed.l0
  rw [if_pos (by omega), if_pos (by omega), if_pos (by omega), if_pos (by omega), wrap_up i (by omega)]
  by_cases c : rd a (i : Int) = rd b (i : Int)
  · have h4 := ih k (i + 1) (by omega) hlt (by omega)
    rw [show (pairsL a b).take (i + 1) = (pairsL a b).take i ++ [(rd a (i : Int), rd b (i : Int))] from hz, dfI_snoc, sgI_snoc, if_pos c, if_pos c, List.append_nil, List.append_nil] at h4
    rw [if_pos c]
    exact h4
  · rw [if_neg c]
    obtain ⟨k, rfl⟩ : ∃ k', k = k' + (a.length + 1) := ⟨k - (a.length + 1), by omega⟩
    have h4 := ih k (i + 1) (by omega) hlt (by omega)
    rw [show (pairsL a b).take (i + 1) = (pairsL a b).take i ++ [(rd a (i : Int), rd b (i : Int))] from hz, dfI_snoc, sgI_snoc, if_neg c, if_neg c, List.map_append, List.map_cons, List.map_nil, dotI_snoc _ _ _ _ (by rw [List.length_map]; exact hdl.1.symm)] at h4
    have h6 := sg_l1 a b hl h5 ga gb (dotI (sgI ((pairsL a b).take i)) ((dfI ((pairsL a b).take i)).map (rankI (dfI (pairsL a b))))) i hlt a.length k 0 (by omega) (Nat.zero_le _)
    rw [List.take_zero] at h6
    refine h6.trans ?_
    by_cases g : rd a (i : Int) < rd b (i : Int)
    · rw [if_pos g, w64' _ (by omega) (by omega)]
      rw [if_pos g, Int.one_mul] at h4
      exact h4
    · rw [if_neg g, w64' _ (by omega) (by omega)]
      rw [if_neg g, Int.neg_one_mul] at h4
      exact h4
theorem signed_f (a b : List Int) (hl : a.length = b.length) (h5 : a.length ≤ 5) (ga : ∀ x ∈ a, -1000 ≤ x ∧ x ≤ 1000) (gb : ∀ x ∈ b, -1000 ≤ x ∧ x ≤ 1000) (k : Nat) (hk : 40 ≤ k) : pianolalaw10_signed.f k a b = some (psum a b) := by
 unfold pianolalaw10_signed.f
 exact sg_l0 a b hl h5 ga gb a.length k 0 (by omega) (Nat.zero_le _) (by omega)
/-- Pairs, some of them swapped. -/
def swapP : List (Int × Int) → Nat → List (Int × Int)
 | [], _ => []
 | p :: l, b => (if b % 2 = 1 then (p.2, p.1) else p) :: swapP l (b / 2)
theorem farI_comm (x y : Int) : farI x y = farI y x := by
 unfold farI mx
 split <;> split <;> omega
theorem swap_df : ∀ (l : List (Int × Int)) (b : Nat), dfI (swapP l b) = dfI l
 | [], b => rfl
 | p :: l, b => by
  have ih := swap_df l (b / 2)
  unfold dfI at ih ⊢
  unfold swapP
  by_cases c : b % 2 = 1
  · rw [if_pos c]
    by_cases e : p.1 = p.2
    · rw [List.filter_cons_of_neg (by simp [e]), List.filter_cons_of_neg (by simp [e]), ih]
    · rw [List.filter_cons_of_pos (by simp; exact fun h => e h.symm), List.filter_cons_of_pos (by simp; exact e), List.map_cons, List.map_cons, ih, farI_comm]
  · rw [if_neg c]
    by_cases e : p.1 = p.2
    · rw [List.filter_cons_of_neg (by simp [e]), List.filter_cons_of_neg (by simp [e]), ih]
    · rw [List.filter_cons_of_pos (by simp; exact e), List.filter_cons_of_pos (by simp; exact e), List.map_cons, List.map_cons, ih]
theorem allS_count (r : Int) (rs : List Int) (q : Int → Bool) : (allS (r :: rs)).countP q = (allS rs).countP (fun t => q (t + r)) + (allS rs).countP (fun t => q (t - r)) := by
 have h : ∀ L : List Int, (L.flatMap fun s => [s + r, s - r]).countP q = L.countP (fun t => q (t + r)) + L.countP (fun t => q (t - r)) := fun L => by
  induction L with
  | nil => rfl
  | cons a L ih =>
   rw [List.flatMap_cons, List.countP_append, ih]
   simp only [List.countP_cons, List.countP_nil]
   omega
 rw [allS, h]
/-- All swaps, one by one, tell all ways to give signs, each as often. -/
theorem swap_count : ∀ (l : List (Int × Int)) (rs : List Int) (q : Int → Bool), rs.length = (dfI l).length → ((List.range (2 ^ l.length)).countP fun b => q (dotI (sgI (swapP l b)) rs)) = 2 ^ (l.length - rs.length) * (allS rs).countP q
 | [], rs, q, h => by
  obtain rfl : rs = [] := List.length_eq_zero_iff.1 h
  show ([0] : List Nat).countP (fun b => q (dotI (sgI (swapP [] b)) [])) = 2 ^ 0 * ([0] : List Int).countP q
  simp [swapP, sgI, dotI]
 | p :: l, rs, q, h => by
  have hdl := (dfI_len l).2
  rw [List.length_cons, Nat.pow_succ, Nat.mul_comm, range_double]
  have e1 : ∀ b : Nat, swapP (p :: l) (2 * b) = p :: swapP l b := fun b => by rw [swapP, if_neg (by omega), show 2 * b / 2 = b by omega]
  have e2 : ∀ b : Nat, swapP (p :: l) (2 * b + 1) = (p.2, p.1) :: swapP l b := fun b => by rw [swapP, if_pos (by omega), show (2 * b + 1) / 2 = b by omega]
  simp only [e1, e2]
  by_cases e : p.1 = p.2
  · have hd : dfI (p :: l) = dfI l := by unfold dfI; rw [List.filter_cons_of_neg (by simp [e])]
    rw [hd] at h
    have s1 : ∀ b, sgI (p :: swapP l b) = sgI (swapP l b) := fun b => by unfold sgI; rw [List.filter_cons_of_neg (by simp [e])]
    have s2 : ∀ b, sgI ((p.2, p.1) :: swapP l b) = sgI (swapP l b) := fun b => by unfold sgI; rw [List.filter_cons_of_neg (by simp [e])]
    simp only [s1, s2]
    rw [swap_count l rs q h, show l.length + 1 - rs.length = (l.length - rs.length) + 1 by omega, Nat.pow_succ, Nat.mul_assoc, Nat.mul_comm 2, ← Nat.mul_assoc]
    omega
  · have hd : dfI (p :: l) = farI p.1 p.2 :: dfI l := by unfold dfI; rw [List.filter_cons_of_pos (by simp; exact e), List.map_cons]
    rw [hd, List.length_cons] at h
    obtain ⟨r, rs, rfl⟩ : ∃ r rs', rs = r :: rs' := by
     match rs, h with
     | r :: rs, _ => exact ⟨r, rs, rfl⟩
    have h' : rs.length = (dfI l).length := by simpa using h
    have s1 : ∀ b, sgI (p :: swapP l b) = (if p.1 < p.2 then 1 else -1) :: sgI (swapP l b) := fun b => by unfold sgI; rw [List.filter_cons_of_pos (by simp; exact e), List.map_cons]
    have s2 : ∀ b, sgI ((p.2, p.1) :: swapP l b) = (if p.2 < p.1 then 1 else -1) :: sgI (swapP l b) := fun b => by unfold sgI; rw [List.filter_cons_of_pos (by simp; exact fun h => e h.symm), List.map_cons]
    simp only [s1, s2, dotI]
    rw [allS_count, List.length_cons, show l.length + 1 - (rs.length + 1) = l.length - rs.length by omega]
    by_cases c : p.1 < p.2
    · simp only [if_pos c, if_neg (show ¬ p.2 < p.1 by omega), Int.one_mul, Int.neg_one_mul]
      rw [swap_count l rs (fun t => q (r + t)) h', swap_count l rs (fun t => q (-r + t)) h', ← Nat.mul_add]
      congr 1
      congr 1
      · exact List.countP_congr fun t _ => by rw [Int.add_comm]
      · exact List.countP_congr fun t _ => by rw [show -r + t = t - r by omega]
    · simp only [if_neg c, if_pos (show p.2 < p.1 by omega), Int.one_mul, Int.neg_one_mul]
      rw [swap_count l rs (fun t => q (-r + t)) h', swap_count l rs (fun t => q (r + t)) h', ← Nat.mul_add]
      congr 1
      rw [Nat.add_comm]
      congr 1
      · exact List.countP_congr fun t _ => by rw [Int.add_comm]
      · exact List.countP_congr fun t _ => by rw [show -r + t = t - r by omega]
theorem lowI_mul (k s t : Nat) (hk : 0 < k) : lowI (k * s) (k * t) = lowI s t := by
 unfold lowI
 rw [Nat.gcd_mul_left, Nat.mul_div_mul_left _ _ hk, Nat.mul_div_mul_left _ _ hk]
theorem swap_len : ∀ (l : List (Int × Int)) (b : Nat), (swapP l b).length = l.length
 | [], b => rfl
 | p :: l, b => by rw [swapP, List.length_cons, List.length_cons, swap_len l]
/-- The first and the second elements of swapped pairs. -/
def swapA (a b : List Int) (s : Nat) : List Int := (swapP (pairsL a b) s).map Prod.fst
def swapB (a b : List Int) (s : Nat) : List Int := (swapP (pairsL a b) s).map Prod.snd
theorem zip_unzip : ∀ l : List (Int × Int), (l.map Prod.fst).zip (l.map Prod.snd) = l
 | [] => rfl
 | p :: l => by rw [List.map_cons, List.map_cons, List.zip_cons_cons, zip_unzip l]
theorem swap_pairs (a b : List Int) (s : Nat) : pairsL (swapA a b s) (swapB a b s) = swapP (pairsL a b) s := zip_unzip _
theorem swapAB_len (a b : List Int) (s : Nat) (hl : a.length = b.length) : (swapA a b s).length = a.length ∧ (swapB a b s).length = a.length := by
 unfold swapA swapB
 rw [List.length_map, List.length_map, swap_len]
 unfold pairsL
 rw [List.length_zip]
 omega
theorem swapP_getD : ∀ (l : List (Int × Int)) (s i : Nat), i < l.length → (swapP l s)[i]? = (l[i]?).map (fun p => if s / 2 ^ i % 2 = 1 then (p.2, p.1) else p)
 | p :: l, s, 0, _ => by simp [swapP]
 | p :: l, s, i + 1, h => by
  rw [swapP, List.getElem?_cons_succ, List.getElem?_cons_succ, swapP_getD l (s / 2) i (by simpa using h), Nat.pow_succ, Nat.mul_comm (2 ^ i) 2, Nat.div_div_eq_div_mul]
theorem rd_of {α : Type} {L : List α} (f : α → Int) {i : Nat} {p : α} (h : L[i]? = some p) : rd (L.map f) (i : Int) = f p := by
 unfold rd
 rw [Int.toNat_natCast, List.getD_eq_getElem?_getD, List.getElem?_map, h]
 rfl
theorem rd_swap (a b : List Int) (s : Nat) (hl : a.length = b.length) (i : Nat) (hi : i < a.length) : rd (swapA a b s) (i : Int) = (if s / 2 ^ i % 2 = 1 then rd b (i : Int) else rd a (i : Int)) ∧ rd (swapB a b s) (i : Int) = (if s / 2 ^ i % 2 = 1 then rd a (i : Int) else rd b (i : Int)) := by
 have hz : (pairsL a b)[i]? = some (rd a (i : Int), rd b (i : Int)) := by
  have hlz : i < (pairsL a b).length := by unfold pairsL; rw [List.length_zip]; omega
  have h := zip_take a b hi (by omega)
  have h2 : ((pairsL a b).take (i + 1))[i]? = some (rd a (i : Int), rd b (i : Int)) := by
   unfold pairsL
   rw [h, List.getElem?_append_right (by rw [List.length_take]; omega), List.length_take, List.length_zip]
   rw [show i - min i (min a.length b.length) = 0 by omega]
   rfl
  rwa [List.getElem?_take_of_lt (by omega)] at h2
 have hs := swapP_getD (pairsL a b) s i (by unfold pairsL; rw [List.length_zip]; omega)
 rw [hz] at hs
 rw [Option.map_some] at hs
 have e1 := rd_of Prod.fst hs
 have e2 := rd_of Prod.snd hs
 unfold swapA swapB
 rw [e1, e2]
 by_cases c : s / 2 ^ i % 2 = 1
 · rw [if_pos c, if_pos c, if_pos c]; exact ⟨rfl, rfl⟩
 · rw [if_neg c, if_neg c, if_neg c]; exact ⟨rfl, rfl⟩
theorem swap_mem (a b : List Int) (s : Nat) (hl : a.length = b.length) : (∀ x ∈ swapA a b s, x ∈ a ++ b) ∧ (∀ x ∈ swapB a b s, x ∈ a ++ b) := by
 have hlen := swapAB_len a b s hl
 have key : ∀ (L : List Int), L.length = a.length → (∀ i : Nat, i < a.length → rd L (i : Int) = rd a (i : Int) ∨ rd L (i : Int) = rd b (i : Int)) → ∀ x ∈ L, x ∈ a ++ b := fun L h1 h2 x hx => by
  obtain ⟨i, hi, rfl⟩ := List.getElem_of_mem hx
  have e : L[i] = rd L (i : Int) := by unfold rd; rw [Int.toNat_natCast, List.getD_eq_getElem?_getD, List.getElem?_eq_getElem hi]; rfl
  rw [e]
  rcases h2 i (by omega) with h | h
  · rw [h]; exact List.mem_append_left _ (rd_mem a (by omega))
  · rw [h]; exact List.mem_append_right _ (rd_mem b (by omega))
 refine ⟨key _ hlen.1 fun i hi => ?_, key _ hlen.2 fun i hi => ?_⟩
 · rw [(rd_swap a b s hl i hi).1]; split
   · exact .inr rfl
   · exact .inl rfl
 · rw [(rd_swap a b s hl i hi).2]; split
   · exact .inl rfl
   · exact .inr rfl
theorem swap_psum (a b : List Int) (s : Nat) : psum (swapA a b s) (swapB a b s) = dotI (sgI (swapP (pairsL a b) s)) (ranksI (dfI (pairsL a b))) := by
 unfold psum
 rw [swap_pairs, swap_df]
/-- The chance of swapped samples. -/
theorem swap_chance (a b : List Int) (s : Nat) : pchance (swapA a b s) (swapB a b s) = lowI ((allS (ranksI (dfI (pairsL a b)))).countP fun x => decide (farI (psum (swapA a b s) (swapB a b s)) 0 ≤ farI x 0)) (2 ^ (dfI (pairsL a b)).length) := by
 unfold pchance
 rw [swap_pairs, swap_df]

end Go.Proofs.Ythddeillkdediaa.H
