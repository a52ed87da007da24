/- Texts PW of this chapter, one behind the other. -/
import Derived.Test.YthddeillkdediaaQA4
import Derived.Test.YthddeillkdediaaQA5
import Derived.Test.YthddeillkdediaaXH
import Derived.Test.YthddeillkdediaaXI

/- Plain facts for the statements without the reference: samples, choices by bits, fractions. -/
namespace Go.Proofs.Ythddeillkdediaa.H
open Go.RowKit Go.Proofs.YthddeillkdediaaW.PrintWords Go.Proofs.YthddeillkdediaaW.PrintLast Go.Proofs.YthddeillkdediaaW.PrintMore
open Go.Shelf Go.Proofs.Ythddeillkdediaa.QA
set_option linter.unusedVariables false
set_option linter.unusedSimpArgs false


theorem and_oneN (i : Nat) (hi : i < 9223372036854775808) : bits BinOp.and IntKind.i64 (i : Int) 1 = ((i % 2 : Nat) : Int) := by
  have two63 : (2 : Int) ^ 63 = 9223372036854775808 := by decide
  have h := bits_mask .i64 63 (by decide) (fun n h0 h1 => by rw [two63] at h1; rw [IntKind.wrap_i64]; omega) 1 (by decide) (i : Int) (by omega) (by rw [two63]; omega)
  have e : ((2 : Int) ^ 1 - 1) = 1 := by decide
  rw [e] at h
  rw [h]
  omega
theorem tmod_nat (x y : Nat) : Int.tmod (x : Int) (y : Int) = ((x % y : Nat) : Int) := rfl
/-- What a sample of a statement is like. -/
def SmpOK (r : List Int) : Prop := 1 ≤ r.length ∧ r.length ≤ 5 ∧ ∀ x ∈ r, -3 ≤ x ∧ x ≤ 63
theorem sampled_l (l : List Int) (hl : ∀ x ∈ l, 0 ≤ x ∧ x ≤ 255) (wd : Nat) (hw : wd ≤ 255) : ∀ (m k i : Nat) (out : List Int), 5 - i = m → i = out.length → i ≤ 5 → (∀ x ∈ out, -3 ≤ x ∧ x ≤ 63) → m + 2 ≤ k → ∃ r, pianolalaw10_sampled.l0 k l (wd : Int) out (i : Int) = some r ∧ SmpOK r := by
 have hend : ∀ out : List Int, out.length ≤ 5 → (∀ x ∈ out, -3 ≤ x ∧ x ≤ 63) → ∃ r, (if (out.length : Int) = 0 then (if out.length < 17592186044416 then some (out ++ [1]) else none) else some out) = some r ∧ SmpOK r := fun out h1 h2 => by
  by_cases c : (out.length : Int) = 0
  · rw [if_pos c, if_pos (by omega)]
    have : out = [] := List.length_eq_zero_iff.1 (by omega)
    subst this
    exact ⟨_, rfl, by simp, by simp, by simp⟩
  · rw [if_neg c]
    exact ⟨_, rfl, by omega, h1, h2⟩
 intro m
 induction m with
 | zero =>
  intro k i out h1 h2 h3 h4 h5
  obtain ⟨k, rfl⟩ : ∃ k', k = k' + 1 := ⟨k - 1, by omega⟩
  unfold pianolalaw10_sampled.l0
  by_cases c : (i : Int) < (l.length : Int)
  · rw [if_pos c, if_neg (by omega)]
    exact hend out (by omega) h4
  · rw [if_neg c]
    exact hend out (by omega) h4
 | succ m ih =>
  intro k i out h1 h2 h3 h4 h5
  obtain ⟨k, rfl⟩ : ∃ k', k = k' + 1 := ⟨k - 1, by omega⟩
  unfold pianolalaw10_sampled.l0
  by_cases c : (i : Int) < (l.length : Int)
  · have hwm : wrap64 (2 + Int.tmod (wd : Int) 64) = ((2 + wd % 64 : Nat) : Int) := by
     rw [show (64 : Int) = ((64 : Nat) : Int) from rfl, tmod_nat, w64' _ (by omega) (by omega)]; push_cast; rfl
    have hx := hl _ (rd_mem l (show i < l.length by omega))
    obtain ⟨v, hv⟩ : ∃ v : Nat, rd l (i : Int) = (v : Int) := ⟨(rd l (i : Int)).toNat, by omega⟩
    rw [hv] at hx
    have hmod : v % (2 + wd % 64) < 2 + wd % 64 := Nat.mod_lt _ (by omega)
    rw [if_pos c, if_pos (by omega), if_pos (by omega), hwm, if_neg (by omega), if_pos (by omega), hv, w64' (v : Int) (by omega) (by omega), tmod_nat, w64' (((v % (2 + wd % 64) : Nat) : Int) - 3) (by omega) (by omega), wrap_up i (by omega)]
    exact ih k (i + 1) _ (by omega) (by simp [h2]) (by omega) (fun x hx => by
     rcases List.mem_append.1 hx with h | h
     · exact h4 x h
     · rw [List.mem_singleton.1 h]; omega) (by omega)
  · rw [if_neg c]
    exact hend out (by omega) h4
theorem sampled_f (l : List Int) (hl : ∀ x ∈ l, 0 ≤ x ∧ x ≤ 255) (wd : Int) (hw : 0 ≤ wd ∧ wd ≤ 255) (k : Nat) (hk : 10 ≤ k) : ∃ r, pianolalaw10_sampled.f k l wd = some r ∧ SmpOK r := by
 obtain ⟨n, rfl⟩ : ∃ n : Nat, wd = (n : Int) := ⟨wd.toNat, by omega⟩
 unfold pianolalaw10_sampled.f
 exact sampled_l l hl n (by omega) 5 k 0 [] rfl rfl (by omega) (by simp) (by omega)
theorem made_f (l m : List Int) (hl : ∀ x ∈ l, 0 ≤ x ∧ x ≤ 255) (hm : ∀ x ∈ m, 0 ≤ x ∧ x ≤ 255) (wd : Int) (hw : 0 ≤ wd ∧ wd ≤ 255) (k : Nat) (hk : 10 ≤ k) : ∃ a b, pianolalaw10_Touch_made.f k l m wd = some (a, b) ∧ SmpOK a ∧ SmpOK b := by
 unfold pianolalaw10_Touch_made.f
 rw [w64' wd (by omega) (by omega)]
 obtain ⟨a, ha, h1⟩ := sampled_f l hl wd hw k hk
 obtain ⟨b, hb, h2⟩ := sampled_f m hm wd hw k hk
 rw [ha, hb]
 exact ⟨a, b, rfl, h1, h2⟩
theorem SmpOK.chk {r : List Int} (h : SmpOK r) : chk r = 0 := by
 unfold H.chk
 rw [if_neg (by have := h.1; omega), if_neg (by have := h.2.1; omega), if_neg]
 rw [List.any_eq_true]
 rintro ⟨x, hx, hg⟩
 have := h.2.2 x hx
 unfold goodB isIn at hg
 simp at hg
 omega
theorem smp_both {a b : List Int} (ha : SmpOK a) (hb : SmpOK b) : bothI a b = 0 := by unfold bothI; rw [if_pos ha.chk, hb.chk]
/-- The law's own beats. -/
theorem lb_l1 (a b : List Int) (ha : a.length ≤ 1000) (hb : b.length ≤ 1000) (S : Int) (hS : 0 ≤ S ∧ S ≤ 2000000) (i : Nat) (hi : i < a.length) : ∀ (m k j : Nat), b.length - j = m → j ≤ b.length →
  pianolalaw10_beats.l1 (k + (m + 1)) b (S + rowS (b.take j) (rd a (i : Int))) (rd a (i : Int)) a (a.length : Int) (i : Int) b (b.length : Int) (j : Int) = pianolalaw10_beats.l0 k b (S + rowS b (rd a (i : Int))) a (a.length : Int) ((i + 1 : Nat) : Int) := by
 intro m
 induction m with
 | zero =>
  intro k j h1 h2
  obtain rfl : j = b.length := by omega
  rw [show k + (0 + 1) = k + 1 by omega]
  unfold pianolalaw10_beats.l1
  rw [if_neg (by omega), List.take_length, wrap_up i (by omega)]
 | succ m ih =>
  intro k j h1 h2
  have hlt : j < b.length := by omega
  rw [show k + (m + 1 + 1) = (k + (m + 1)) + 1 by omega]
  unfold pianolalaw10_beats.l1
  have hi2 := ih k (j + 1) (by omega) (by omega)
  rw [rowS_take b _ hlt] at hi2
  rw [if_pos (by omega), if_pos (by omega), if_pos (by omega), wrap_up j (by omega)]
  have hbb := rowS_in (b.take j) (rd a (i : Int))
  rw [List.length_take] at hbb
  by_cases h3 : rd a (i : Int) < rd b (j : Int)
  · rw [if_pos h3, w64' _ (by omega) (by omega), ← hi2, show scoreI (rd a (i : Int)) (rd b (j : Int)) = 2 by unfold scoreI; rw [if_pos h3], Int.add_assoc]
  · rw [if_neg h3]
    by_cases h4 : rd a (i : Int) = rd b (j : Int)
    · rw [if_pos h4, w64' _ (by omega) (by omega), ← hi2, show scoreI (rd a (i : Int)) (rd b (j : Int)) = 1 by unfold scoreI; rw [if_neg h3, if_pos h4], Int.add_assoc]
    · rw [if_neg h4, ← hi2, show scoreI (rd a (i : Int)) (rd b (j : Int)) = 0 by unfold scoreI; rw [if_neg h3, if_neg h4], Int.add_zero]
theorem lb_l0 (a b : List Int) (ha : a.length ≤ 1000) (hb : b.length ≤ 1000) : ∀ (m k i : Nat), a.length - i = m → i ≤ a.length → m * (b.length + 2) + 1 ≤ k → pianolalaw10_beats.l0 k b (sumI ((a.take i).map (rowS b))) a (a.length : Int) (i : Int) = some (beatsI a b) := by
 intro m
 induction m with
 | zero =>
  intro k i h1 h2 h3
  obtain rfl : i = a.length := by omega
  obtain ⟨k, rfl⟩ : ∃ k', k = k' + 1 := ⟨k - 1, by omega⟩
  unfold pianolalaw10_beats.l0
  rw [if_neg (by omega), List.take_length]
  rfl
 | succ m ih =>
  intro k i h1 h2 h3
  rw [Nat.succ_mul] at h3
  have hlt : i < a.length := by omega
  obtain ⟨k, rfl⟩ : ∃ k', k = (k' + (b.length + 1)) + 1 := ⟨k - (b.length + 2), by omega⟩
  unfold pianolalaw10_beats.l0
  rw [if_pos (by omega), if_pos (by omega), if_pos (by omega)]
  have hS := rows_in (a.take i) b (by rw [List.length_take]; omega) hb
  have := lb_l1 a b ha hb _ hS i hlt b.length k 0 (by omega) (Nat.zero_le _)
  rw [List.take_zero, show rowS [] (rd a (i : Int)) = 0 from rfl, Int.add_zero] at this
  refine this.trans ?_
  have h6 := ih k (i + 1) (by omega) (by omega) (by omega)
  rw [take_rd a hlt, sum_snoc] at h6
  exact h6
theorem lbeats_f (a b : List Int) (k : Nat) (ha : a.length ≤ 40) (hb : b.length ≤ 40) (hk : 2000 ≤ k) : pianolalaw10_beats.f k a b = some (beatsI a b) := by
 unfold pianolalaw10_beats.f
 refine lb_l0 a b (by omega) (by omega) a.length k 0 (by omega) (Nat.zero_le _) ?_
 have : a.length * (b.length + 2) ≤ 40 * 42 := Nat.mul_le_mul ha (by omega)
 omega
theorem lfar_f (x y : Int) (hx : -1000000000 ≤ x ∧ x ≤ 1000000000) (hy : -1000000000 ≤ y ∧ y ≤ 1000000000) : pianolalaw10_far.f x y = some (farI x y) := by
 unfold pianolalaw10_far.f farI
 rw [w64' (x - y) (by omega) (by omega), w64' (y - x) (by omega) (by omega)]
theorem lowest_l (s t : Nat) (p q : Int) (ht : 0 < t) (hs : s ≤ 4611686018427387904) (ht2 : t ≤ 4611686018427387904) : ∀ (n x y k : Nat), y < 2 ^ n → 2 * n + 1 ≤ k → Nat.gcd x y = Nat.gcd s t → 0 < x →
  pianolalaw10_lowest.l0 k (s : Int) (t : Int) (x : Int) (y : Int) p q = some (p == (lowI s t).1 && (q == (lowI s t).2)) := by
 have hend : ∀ (x k : Nat), Nat.gcd x 0 = Nat.gcd s t → 0 < x → pianolalaw10_lowest.l0 (k + 1) (s : Int) (t : Int) (x : Int) ((0 : Nat) : Int) p q = some (p == (lowI s t).1 && (q == (lowI s t).2)) := fun x k hg hx => by
  unfold pianolalaw10_lowest.l0
  rw [if_neg (by omega), if_neg (by omega)]
  rw [Nat.gcd_zero_right] at hg
  have e1 : Int.tdiv (s : Int) (x : Int) = ((s / x : Nat) : Int) := rfl
  have e2 : Int.tdiv (t : Int) (x : Int) = ((t / x : Nat) : Int) := rfl
  have b1 := Nat.div_le_self s x
  have b2 := Nat.div_le_self t x
  rw [e1, e2]
  unfold lowI
  rw [← hg]
  generalize s / x = p1 at b1 ⊢
  generalize t / x = p2 at b2 ⊢
  rw [w64' _ (by omega) (by omega), w64' _ (by omega) (by omega)]
 have hstep : ∀ (x y k : Nat), 0 < y → pianolalaw10_lowest.l0 (k + 1) (s : Int) (t : Int) (x : Int) (y : Int) p q = pianolalaw10_lowest.l0 k (s : Int) (t : Int) (y : Int) ((x % y : Nat) : Int) p q := fun x y k hy => by
  rw [pianolalaw10_lowest.l0, if_pos (by omega), if_neg (by omega)]
  rfl
 have hgcd : ∀ x y : Nat, Nat.gcd y (x % y) = Nat.gcd x y := fun x y => by rw [Nat.gcd_comm x y, Nat.gcd_rec y x, Nat.gcd_comm]
 intro n
 induction n with
 | zero =>
  intro x y k hy hk hg hx
  obtain rfl : y = 0 := by simpa using hy
  obtain ⟨k, rfl⟩ : ∃ k', k = k' + 1 := ⟨k - 1, by omega⟩
  exact hend x k hg hx
 | succ n ih =>
  intro x y k hy hk hg hx
  obtain ⟨k, rfl⟩ : ∃ k', k = k' + 1 + 1 := ⟨k - 2, by omega⟩
  by_cases h0 : y = 0
  · subst h0
    exact hend x (k + 1) hg hx
  · have hy0 : 0 < y := by omega
    rw [hstep x y (k + 1) hy0]
    have hr := Nat.mod_lt x hy0
    by_cases h1 : x % y = 0
    · rw [h1]
      exact hend y k (by rw [← h1, hgcd, hg]) hy0
    · have hr0 : 0 < x % y := by omega
      rw [hstep y (x % y) k hr0]
      refine ih (x % y) (y % (x % y)) k ?_ (by omega) (by rw [hgcd, hgcd, hg]) hr0
      have h2 := Nat.mod_lt y hr0
      have h3 : y % (x % y) + (x % y) ≤ y := by
       have h4 := Nat.mod_add_div y (x % y)
       have h5 : 0 < y / (x % y) := Nat.div_pos (Nat.le_of_lt hr) hr0
       have h6 : (x % y) * 1 ≤ (x % y) * (y / (x % y)) := Nat.mul_le_mul_left _ h5
       omega
      rw [Nat.pow_succ] at hy
      omega
theorem lowest_f (s t k : Nat) (p q : Int) (ht : 0 < t) (hs : s ≤ 4294967296) (ht2 : t ≤ 4294967296) (hk : 200 ≤ k) : pianolalaw10_lowest.f k p q (s : Int) (t : Int) = some (p == (lowI s t).1 && (q == (lowI s t).2)) := by
 unfold pianolalaw10_lowest.f
 by_cases h0 : s = 0
 · subst h0
   obtain ⟨k, rfl⟩ : ∃ k', k = k' + 1 := ⟨k - 1, by omega⟩
   rw [pianolalaw10_lowest.l0, if_pos (by omega), if_neg (by omega)]
   have e : Int.tmod ((0 : Nat) : Int) (t : Int) = ((0 % t : Nat) : Int) := rfl
   rw [e, Nat.zero_mod]
   exact lowest_l 0 t p q ht (by omega) (by omega) 0 t 0 k (by omega) (by omega) (by rw [Nat.gcd_zero_right, Nat.gcd_zero_left]) ht
 · exact lowest_l s t p q ht (by omega) (by omega) 33 s t k (by omega) (by omega) rfl (by omega)
/-- The choice that bits tell. -/
def pickL : List Int → Nat → List Int × List Int
 | [], _ => ([], [])
 | x :: l, b => if b % 2 = 1 then (x :: (pickL l (b / 2)).1, (pickL l (b / 2)).2) else ((pickL l (b / 2)).1, x :: (pickL l (b / 2)).2)
theorem pick_snoc (x : Int) : ∀ (l : List Int) (b : Nat), pickL (l ++ [x]) b = if b / 2 ^ l.length % 2 = 1 then ((pickL l b).1 ++ [x], (pickL l b).2) else ((pickL l b).1, (pickL l b).2 ++ [x])
 | [], b => by
  simp only [List.nil_append, pickL, List.length_nil, Nat.pow_zero, Nat.div_one]
 | y :: l, b => by
  have ih := pick_snoc x l (b / 2)
  have e : b / 2 ^ (y :: l).length = b / 2 / 2 ^ l.length := by rw [List.length_cons, Nat.pow_succ, Nat.mul_comm, Nat.div_div_eq_div_mul]
  rw [e, List.cons_append, pickL, pickL, ih]
  by_cases c1 : b % 2 = 1 <;> by_cases c2 : b / 2 / 2 ^ l.length % 2 = 1 <;> simp [c1, c2]
theorem pick_mem : ∀ (l : List Int) (b : Nat), pickL l b ∈ splitsL l
 | [], b => by simp [pickL, splitsL]
 | x :: l, b => by
  unfold pickL splitsL
  refine List.mem_flatMap.2 ⟨pickL l (b / 2), pick_mem l _, ?_⟩
  split <;> simp
theorem range_double (n : Nat) (f : Nat → Bool) : (List.range (2 * n)).countP f = (List.range n).countP (fun b => f (2 * b)) + (List.range n).countP (fun b => f (2 * b + 1)) := by
 induction n with
 | zero => rfl
 | succ n ih =>
  rw [show 2 * (n + 1) = 2 * n + 1 + 1 by omega, List.range_succ, List.range_succ, List.range_succ]
  simp only [List.countP_append, List.countP_cons, List.countP_nil]
  rw [ih]
  omega
/-- All bits tell all choices, each once. -/
theorem pick_count : ∀ (l : List Int) (P : List Int × List Int → Bool), ((List.range (2 ^ l.length)).countP fun b => P (pickL l b)) = (splitsL l).countP P
 | [], P => by simp [pickL, splitsL]
 | x :: l, P => by
  have h : ∀ L : List (List Int × List Int), (L.flatMap fun p => [(x :: p.1, p.2), (p.1, x :: p.2)]).countP P = L.countP (fun p => P (x :: p.1, p.2)) + L.countP (fun p => P (p.1, x :: p.2)) := fun L => by
   induction L with
   | nil => rfl
   | cons p L ih =>
    rw [List.flatMap_cons, List.countP_append, ih]
    simp only [List.countP_cons, List.countP_nil]
    omega
  rw [splitsL, h, ← pick_count l, ← pick_count l, List.length_cons, Nat.pow_succ, Nat.mul_comm, range_double, Nat.add_comm]
  congr 1
  · refine List.countP_congr fun b _ => ?_
    rw [pickL, if_pos (by omega), show (2 * b + 1) / 2 = b by omega]
  · refine List.countP_congr fun b _ => ?_
    rw [pickL, if_neg (by omega), show 2 * b / 2 = b by omega]
theorem shr_one (b i : Nat) (hi : i ≤ 64) (hb : b < 9223372036854775808) : Go.bits .and .i64 (shr .i64 (b : Int) (i : Int)) 1 = ((b / 2 ^ i % 2 : Nat) : Int) := by
 have e : shr .i64 (b : Int) (i : Int) = ((b / 2 ^ i : Nat) : Int) := by
  unfold shr
  rw [Int.toNat_natCast, show min i IntKind.i64.bits = i from Nat.min_eq_left hi]
  push_cast
  rfl
 rw [e, and_oneN _ (Nat.lt_of_le_of_lt (Nat.div_le_self _ _) hb)]
theorem chosen_l (a l : List Int) (b : Nat) (hl : l.length ≤ 32) (hb : b < 4294967296) : ∀ (m k i : Nat), l.length - i = m → i ≤ l.length → m + 1 ≤ k →
  pianolalaw10_chosen.l0 k a (b : Int) (pickL (l.take i) b).1 (pickL (l.take i) b).2 l (l.length : Int) (i : Int) = some ((pickL l b).1, (pickL l b).2, (((pickL l b).1.length : Int) == (a.length : Int))) := by
 have hlen : ∀ i, (pickL (l.take i) b).1.length + (pickL (l.take i) b).2.length ≤ 32 := fun i => by
  have := splits_len _ _ (pick_mem (l.take i) b)
  rw [List.length_take] at this
  omega
 intro m
 induction m with
 | zero =>
  intro k i h1 h2 h3
  obtain rfl : i = l.length := by omega
  obtain ⟨k, rfl⟩ : ∃ k', k = k' + 1 := ⟨k - 1, by omega⟩
  unfold pianolalaw10_chosen.l0
  rw [if_neg (by omega), List.take_length]
 | succ m ih =>
  intro k i h1 h2 h3
  have hlt : i < l.length := by omega
  obtain ⟨k, rfl⟩ : ∃ k', k = k' + 1 := ⟨k - 1, by omega⟩
  have h5 := ih k (i + 1) (by omega) hlt (by omega)
  have h6 := hlen i
  rw [take_rd l hlt, pick_snoc, List.length_take, Nat.min_eq_left h2] at h5
  unfold pianolalaw10_chosen.l0
  rw [if_pos (by omega), if_pos (by omega), if_pos (by omega), shr_one b i (by omega) (by omega), wrap_up i (by omega)]
  by_cases c : b / 2 ^ i % 2 = 1
  · rw [if_pos (by omega), if_pos (by omega)]
    rw [if_pos c] at h5
    exact h5
  · rw [if_neg (by omega), if_pos (by omega)]
    rw [if_neg c] at h5
    exact h5
theorem chosen_f (a b : List Int) (bs k : Nat) (hl : a.length + b.length ≤ 32) (hb : bs < 4294967296) (hk : 40 ≤ k) :
  pianolalaw10_chosen.f k a b (bs : Int) = some ((pickL (a ++ b) bs).1, (pickL (a ++ b) bs).2, (((pickL (a ++ b) bs).1.length : Int) == (a.length : Int))) := by
 unfold pianolalaw10_chosen.f
 rw [Option.bind_some, if_pos (by simp; omega), Option.bind_some, List.nil_append, if_pos (by omega), Option.bind_some]
 exact chosen_l a (a ++ b) bs (by rw [List.length_append]; omega) hb _ k 0 rfl (Nat.zero_le _) (by rw [List.length_append]; omega)
/-- How many of the first bits tell a choice of as many elements as a has, that holds. -/
def cntK (a b : List Int) (q : List Int × List Int → Bool) (n : Nat) : Nat := (List.range n).countP fun x => decide ((pickL (a ++ b) x).1.length = a.length) && q (pickL (a ++ b) x)
theorem cntK_succ (a b : List Int) (q : List Int × List Int → Bool) (n : Nat) : cntK a b q (n + 1) = cntK a b q n + if (decide ((pickL (a ++ b) n).1.length = a.length) && q (pickL (a ++ b) n)) = true then 1 else 0 := by
 unfold cntK
 rw [List.range_succ, List.countP_append, List.countP_cons, List.countP_nil, Nat.zero_add]
theorem cntK_le (a b : List Int) (q : List Int × List Int → Bool) (n : Nat) : cntK a b q n ≤ n := by
 unfold cntK
 have := List.countP_le_length (p := fun x => decide ((pickL (a ++ b) x).1.length = a.length) && q (pickL (a ++ b) x)) (l := List.range n)
 rw [List.length_range] at this
 exact this
theorem cntK_all (a b : List Int) (q : Int → Bool) : cntK a b (fun p => q (beatsI p.1 p.2)) (2 ^ (a.length + b.length)) = cntB a b q := by
 unfold cntK cntB
 have := pick_count (a ++ b) (fun p => decide (p.1.length = a.length) && q (beatsI p.1 p.2))
 rw [List.length_append] at this
 exact this
theorem cntB_two (a b : List Int) : cntB a b (fun x => decide (x ≤ beatsI a b)) + cntB a b (fun x => decide (beatsI a b ≤ x)) = cntB a b (fun _ => true) + cntB a b (fun x => decide (x = beatsI a b)) := by
 unfold cntB
 generalize splitsL (a ++ b) = L
 generalize beatsI a b = own
 induction L with
 | nil => rfl
 | cons p L ih =>
  simp only [List.countP_cons]
  dsimp only at ih ⊢
  have : (if (decide (p.1.length = a.length) && decide (beatsI p.1 p.2 ≤ own)) = true then 1 else 0) + (if (decide (p.1.length = a.length) && decide (own ≤ beatsI p.1 p.2)) = true then 1 else 0) = (if (decide (p.1.length = a.length) && true) = true then 1 else 0) + (if (decide (p.1.length = a.length) && decide (beatsI p.1 p.2 = own)) = true then 1 else 0) := by
   by_cases c : p.1.length = a.length
   · simp only [c, decide_true, Bool.true_and, decide_eq_true_eq, if_true]
     by_cases c1 : beatsI p.1 p.2 ≤ own <;> by_cases c2 : own ≤ beatsI p.1 p.2
     · rw [if_pos c1, if_pos c2, if_pos (by omega)]
     · rw [if_pos c1, if_neg c2, if_neg (by omega)]
     · rw [if_neg c1, if_pos c2, if_neg (by omega)]
     · omega
   · simp [c]
  omega

end Go.Proofs.Ythddeillkdediaa.H
