/- Texts PW, PX of this chapter, one behind the other. -/
import Derived.Test.YthddeillkdediaaQA4
import Derived.Test.YthddeillkdediaaQA5
import Derived.Test.YthddeillkdediaaXI

/- Plain facts for the statements without the reference: samples, choices by bits, fractions. -/
namespace Go.Proofs.Ythddeillkdediaa.H
open Go.RowKit Go.Proofs.YthddeillkdediaaW.PrintWords Go.Proofs.YthddeillkdediaaW.PrintLast Go.Proofs.YthddeillkdediaaW.PrintMore
open Go.Shelf Go.Proofs.Ythddeillkdediaa.QA
set_option linter.unusedVariables false
set_option linter.unusedSimpArgs false


theorem and_oneN (i : Nat) (hi : i < 9223372036854775808) : bits BinOp.and IntKind.i64 (i : Int) 1 = ((i % 2 : Nat) : Int) := by
  have two63 : (2 : Int) ^ 63 = 9223372036854775808 := by decide
  have h := bits_mask .i64 63 (by decide) (fun n h0 h1 => by rw [two63] at h1; rw [IntKind.wrap_i64]; omega) 1 (by decide) (i : Int) (by omega) (by rw [two63]; omega)
  have e : ((2 : Int) ^ 1 - 1) = 1 := by decide
  rw [e] at h
  rw [h]
  omega
theorem tmod_nat (x y : Nat) : Int.tmod (x : Int) (y : Int) = ((x % y : Nat) : Int) := rfl
/-- What a sample of a statement is like. -/
def SmpOK (r : List Int) : Prop := 1 ≤ r.length ∧ r.length ≤ 5 ∧ ∀ x ∈ r, -3 ≤ x ∧ x ≤ 63
theorem sampled_l (l : List Int) (hl : ∀ x ∈ l, 0 ≤ x ∧ x ≤ 255) (wd : Nat) (hw : wd ≤ 255) : ∀ (m k i : Nat) (out : List Int), 5 - i = m → i = out.length → i ≤ 5 → (∀ x ∈ out, -3 ≤ x ∧ x ≤ 63) → m + 2 ≤ k → ∃ r, pianolalaw10_sampled.l0 k l (wd : Int) out (i : Int) = some r ∧ SmpOK r := by
 have hend : ∀ out : List Int, out.length ≤ 5 → (∀ x ∈ out, -3 ≤ x ∧ x ≤ 63) → ∃ r, (if (out.length : Int) = 0 then (if out.length < 17592186044416 then some (out ++ [1]) else none) else some out) = some r ∧ SmpOK r := fun out h1 h2 => by
  by_cases c : (out.length : Int) = 0
  · rw [if_pos c, if_pos (by omega)]
    have : out = [] := List.length_eq_zero_iff.1 (by omega)
    subst this
    exact ⟨_, rfl, by simp, by simp, by simp⟩
  · rw [if_neg c]
    exact ⟨_, rfl, by omega, h1, h2⟩
 intro m
 induction m with
 | zero =>
  intro k i out h1 h2 h3 h4 h5
  obtain ⟨k, rfl⟩ : ∃ k', k = k' + 1 := ⟨k - 1, by omega⟩
  unfold pianolalaw10_sampled.l0
  by_cases c : (i : Int) < (l.length : Int)
  · rw [if_pos c, if_neg (by omega)]
    exact hend out (by omega) h4
  · rw [if_neg c]
    exact hend out (by omega) h4
 | succ m ih =>
  intro k i out h1 h2 h3 h4 h5
  obtain ⟨k, rfl⟩ : ∃ k', k = k' + 1 := ⟨k - 1, by omega⟩
  unfold pianolalaw10_sampled.l0
  by_cases c : (i : Int) < (l.length : Int)
  · have hwm : wrap64 (2 + Int.tmod (wd : Int) 64) = ((2 + wd % 64 : Nat) : Int) := by
     rw [show (64 : Int) = ((64 : Nat) : Int) from rfl, tmod_nat, w64' _ (by omega) (by omega)]; push_cast; rfl
    have hx := hl _ (rd_mem l (show i < l.length by omega))
    obtain ⟨v, hv⟩ : ∃ v : Nat, rd l (i : Int) = (v : Int) := ⟨(rd l (i : Int)).toNat, by omega⟩
    rw [hv] at hx
    have hmod : v % (2 + wd % 64) < 2 + wd % 64 := Nat.mod_lt _ (by omega)
    rw [if_pos c, if_pos (by omega), if_pos (by omega), hwm, if_neg (by omega), if_pos (by omega), hv, w64' (v : Int) (by omega) (by omega), tmod_nat, w64' (((v % (2 + wd % 64) : Nat) : Int) - 3) (by omega) (by omega), wrap_up i (by omega)]
    exact ih k (i + 1) _ (by omega) (by simp [h2]) (by omega) (fun x hx => by
     rcases List.mem_append.1 hx with h | h
     · exact h4 x h
     · rw [List.mem_singleton.1 h]; omega) (by omega)
  · rw [if_neg c]
    exact hend out (by omega) h4
theorem sampled_f (l : List Int) (hl : ∀ x ∈ l, 0 ≤ x ∧ x ≤ 255) (wd : Int) (hw : 0 ≤ wd ∧ wd ≤ 255) (k : Nat) (hk : 10 ≤ k) : ∃ r, pianolalaw10_sampled.f k l wd = some r ∧ SmpOK r := by
 obtain ⟨n, rfl⟩ : ∃ n : Nat, wd = (n : Int) := ⟨wd.toNat, by omega⟩
 unfold pianolalaw10_sampled.f
 exact sampled_l l hl n (by omega) 5 k 0 [] rfl rfl (by omega) (by simp) (by omega)
theorem made_f (l m : List Int) (hl : ∀ x ∈ l, 0 ≤ x ∧ x ≤ 255) (hm : ∀ x ∈ m, 0 ≤ x ∧ x ≤ 255) (wd : Int) (hw : 0 ≤ wd ∧ wd ≤ 255) (k : Nat) (hk : 10 ≤ k) : ∃ a b, pianolalaw10_Touch_made.f k l m wd = some (a, b) ∧ SmpOK a ∧ SmpOK b := by
 unfold pianolalaw10_Touch_made.f
 rw [w64' wd (by omega) (by omega)]
 obtain ⟨a, ha, h1⟩ := sampled_f l hl wd hw k hk
 obtain ⟨b, hb, h2⟩ := sampled_f m hm wd hw k hk
 rw [ha, hb]
 exact ⟨a, b, rfl, h1, h2⟩
theorem SmpOK.chk {r : List Int} (h : SmpOK r) : chk r = 0 := by
 unfold H.chk
 rw [if_neg (by have := h.1; omega), if_neg (by have := h.2.1; omega), if_neg]
 rw [List.any_eq_true]
 rintro ⟨x, hx, hg⟩
 have := h.2.2 x hx
 unfold goodB isIn at hg
 simp at hg
 omega
theorem smp_both {a b : List Int} (ha : SmpOK a) (hb : SmpOK b) : bothI a b = 0 := by unfold bothI; rw [if_pos ha.chk, hb.chk]
/-- The choice that bits tell. -/
def pickL : List Int → Nat → List Int × List Int
 | [], _ => ([], [])
 | x :: l, b => if b % 2 = 1 then (x :: (pickL l (b / 2)).1, (pickL l (b / 2)).2) else ((pickL l (b / 2)).1, x :: (pickL l (b / 2)).2)
theorem pick_snoc (x : Int) : ∀ (l : List Int) (b : Nat), pickL (l ++ [x]) b = if b / 2 ^ l.length % 2 = 1 then ((pickL l b).1 ++ [x], (pickL l b).2) else ((pickL l b).1, (pickL l b).2 ++ [x])
 | [], b => by
  simp only [List.nil_append, pickL, List.length_nil, Nat.pow_zero, Nat.div_one]
 | y :: l, b => by
  have ih := pick_snoc x l (b / 2)
  have e : b / 2 ^ (y :: l).length = b / 2 / 2 ^ l.length := by rw [List.length_cons, Nat.pow_succ, Nat.mul_comm, Nat.div_div_eq_div_mul]
  rw [e, List.cons_append, pickL, pickL, ih]
  by_cases c1 : b % 2 = 1 <;> by_cases c2 : b / 2 / 2 ^ l.length % 2 = 1 <;> simp [c1, c2]
theorem pick_mem : ∀ (l : List Int) (b : Nat), pickL l b ∈ splitsL l
 | [], b => by simp [pickL, splitsL]
 | x :: l, b => by
  unfold pickL splitsL
  refine List.mem_flatMap.2 ⟨pickL l (b / 2), pick_mem l _, ?_⟩
  split <;> simp
theorem range_double (n : Nat) (f : Nat → Bool) : (List.range (2 * n)).countP f = (List.range n).countP (fun b => f (2 * b)) + (List.range n).countP (fun b => f (2 * b + 1)) := by
 induction n with
 | zero => rfl
 | succ n ih =>
  rw [show 2 * (n + 1) = 2 * n + 1 + 1 by omega, List.range_succ, List.range_succ, List.range_succ]
  simp only [List.countP_append, List.countP_cons, List.countP_nil]
  rw [ih]
  omega
/-- All bits tell all choices, each once. -/
theorem pick_count : ∀ (l : List Int) (P : List Int × List Int → Bool), ((List.range (2 ^ l.length)).countP fun b => P (pickL l b)) = (splitsL l).countP P
 | [], P => by simp [pickL, splitsL]
 | x :: l, P => by
  have h : ∀ L : List (List Int × List Int), (L.flatMap fun p => [(x :: p.1, p.2), (p.1, x :: p.2)]).countP P = L.countP (fun p => P (x :: p.1, p.2)) + L.countP (fun p => P (p.1, x :: p.2)) := fun L => by
   induction L with
   | nil => rfl
   | cons p L ih =>
    rw [List.flatMap_cons, List.countP_append, ih]
    simp only [List.countP_cons, List.countP_nil]
    omega
  rw [splitsL, h, ← pick_count l, ← pick_count l, List.length_cons, Nat.pow_succ, Nat.mul_comm, range_double, Nat.add_comm]
  congr 1
  · refine List.countP_congr fun b _ => ?_
    rw [pickL, if_pos (by omega), show (2 * b + 1) / 2 = b by omega]
  · refine List.countP_congr fun b _ => ?_
    rw [pickL, if_neg (by omega), show 2 * b / 2 = b by omega]
theorem shr_one (b i : Nat) (hi : i ≤ 64) (hb : b < 9223372036854775808) : Go.bits .and .i64 (shr .i64 (b : Int) (i : Int)) 1 = ((b / 2 ^ i % 2 : Nat) : Int) := by
 have e : shr .i64 (b : Int) (i : Int) = ((b / 2 ^ i : Nat) : Int) := by
  unfold shr
  rw [Int.toNat_natCast, show min i IntKind.i64.bits = i from Nat.min_eq_left hi]
  push_cast
  rfl
 rw [e, and_oneN _ (Nat.lt_of_le_of_lt (Nat.div_le_self _ _) hb)]
theorem chosen_l (a l : List Int) (b : Nat) (hl : l.length ≤ 32) (hb : b < 4294967296) : ∀ (m k i : Nat), l.length - i = m → i ≤ l.length → m + 1 ≤ k →
  pianolalaw10_chosen.l0 k a (b : Int) (pickL (l.take i) b).1 (pickL (l.take i) b).2 l (l.length : Int) (i : Int) = some ((pickL l b).1, (pickL l b).2, (((pickL l b).1.length : Int) == (a.length : Int))) := by
 have hlen : ∀ i, (pickL (l.take i) b).1.length + (pickL (l.take i) b).2.length ≤ 32 := fun i => by
  have := splits_len _ _ (pick_mem (l.take i) b)
  rw [List.length_take] at this
  omega
 intro m
 induction m with
 | zero =>
  intro k i h1 h2 h3
  obtain rfl : i = l.length := by omega
  obtain ⟨k, rfl⟩ : ∃ k', k = k' + 1 := ⟨k - 1, by omega⟩
  unfold pianolalaw10_chosen.l0
  rw [if_neg (by omega), List.take_length]
 | succ m ih =>
  intro k i h1 h2 h3
  have hlt : i < l.length := by omega
  obtain ⟨k, rfl⟩ : ∃ k', k = k' + 1 := ⟨k - 1, by omega⟩
  have h5 := ih k (i + 1) (by omega) hlt (by omega)
  have h6 := hlen i
  rw [take_rd l hlt, pick_snoc, List.length_take, Nat.min_eq_left h2] at h5
  unfold pianolalaw10_chosen.l0
  rw [if_pos (by omega), if_pos (by omega), if_pos (by omega), shr_one b i (by omega) (by omega), wrap_up i (by omega)]
  by_cases c : b / 2 ^ i % 2 = 1
  · rw [if_pos (by omega), if_pos (by omega)]
    rw [if_pos c] at h5
    exact h5
  · rw [if_neg (by omega), if_pos (by omega)]
    rw [if_neg c] at h5
    exact h5
theorem chosen_f (a b : List Int) (bs k : Nat) (hl : a.length + b.length ≤ 32) (hb : bs < 4294967296) (hk : 40 ≤ k) :
  pianolalaw10_chosen.f k a b (bs : Int) = some ((pickL (a ++ b) bs).1, (pickL (a ++ b) bs).2, (((pickL (a ++ b) bs).1.length : Int) == (a.length : Int))) := by
 unfold pianolalaw10_chosen.f
 rw [Option.bind_some, if_pos (by simp; omega), Option.bind_some, List.nil_append, if_pos (by omega), Option.bind_some]
 exact chosen_l a (a ++ b) bs (by rw [List.length_append]; omega) hb _ k 0 rfl (Nat.zero_le _) (by rw [List.length_append]; omega)
/-- How many of the first bits tell a choice of as many elements as a has, that holds. -/
def cntK (a b : List Int) (q : List Int × List Int → Bool) (n : Nat) : Nat := (List.range n).countP fun x => decide ((pickL (a ++ b) x).1.length = a.length) && q (pickL (a ++ b) x)
theorem cntK_succ (a b : List Int) (q : List Int × List Int → Bool) (n : Nat) : cntK a b q (n + 1) = cntK a b q n + if (decide ((pickL (a ++ b) n).1.length = a.length) && q (pickL (a ++ b) n)) = true then 1 else 0 := by
 unfold cntK
 rw [List.range_succ, List.countP_append, List.countP_cons, List.countP_nil, Nat.zero_add]
theorem cntK_le (a b : List Int) (q : List Int × List Int → Bool) (n : Nat) : cntK a b q n ≤ n := by
 unfold cntK
 have := List.countP_le_length (p := fun x => decide ((pickL (a ++ b) x).1.length = a.length) && q (pickL (a ++ b) x)) (l := List.range n)
 rw [List.length_range] at this
 exact this
theorem cntK_all (a b : List Int) (q : Int → Bool) : cntK a b (fun p => q (beatsI p.1 p.2)) (2 ^ (a.length + b.length)) = cntB a b q := by
 unfold cntK cntB
 have := pick_count (a ++ b) (fun p => decide (p.1.length = a.length) && q (beatsI p.1 p.2))
 rw [List.length_append] at this
 exact this
end Go.Proofs.Ythddeillkdediaa.H

/- Plain law: chances of choices, and levels. -/
namespace Go.Proofs.Ythddeillkdediaa.H
open Go.RowKit Go.Proofs.YthddeillkdediaaW.PrintWords Go.Proofs.YthddeillkdediaaW.PrintLast Go.Proofs.YthddeillkdediaaW.PrintMore
open Go.Shelf Go.Proofs.Ythddeillkdediaa.QA
set_option linter.unusedVariables false
set_option linter.unusedSimpArgs false


theorem splits_cons (x : Int) (l : List Int) (P : List Int × List Int → Bool) : (splitsL (x :: l)).countP P = (splitsL l).countP (fun p => P (x :: p.1, p.2)) + (splitsL l).countP (fun p => P (p.1, x :: p.2)) := by
 have h : ∀ L : List (List Int × List Int), (L.flatMap fun p => [(x :: p.1, p.2), (p.1, x :: p.2)]).countP P = L.countP (fun p => P (x :: p.1, p.2)) + L.countP (fun p => P (p.1, x :: p.2)) := fun L => by
  induction L with
  | nil => rfl
  | cons p L ih =>
   rw [List.flatMap_cons, List.countP_append, ih]
   simp only [List.countP_cons, List.countP_nil]
   omega
 rw [splitsL, h]
theorem sumI_perm {l l' : List Int} (h : l.Perm l') : sumI l = sumI l' := by
 induction h with
 | nil => rfl
 | cons x _ ih => simp only [sumI]; omega
 | swap x y l => simp only [sumI]; omega
 | trans _ _ h1 h2 => rw [h1, h2]
theorem beatsI_perm {a a' b b' : List Int} (h1 : a.Perm a') (h2 : b.Perm b') : beatsI a b = beatsI a' b' := by
 unfold beatsI
 rw [sumI_perm (h1.map _)]
 exact sumI_congr _ _ _ fun x _ => sumI_perm (h2.map _)
theorem splits_perm {l l' : List Int} (h : l.Perm l') : ∀ (P : List Int × List Int → Bool), (∀ p p' : List Int × List Int, p.1.Perm p'.1 → p.2.Perm p'.2 → P p = P p') → (splitsL l).countP P = (splitsL l').countP P := by
 induction h with
 | nil => intro P hP; rfl
 | cons x _ ih =>
  intro P hP
  rw [splits_cons, splits_cons, ih (fun p => P (x :: p.1, p.2)) (fun p p' h1 h2 => hP (x :: p.1, p.2) (x :: p'.1, p'.2) (h1.cons x) h2), ih (fun p => P (p.1, x :: p.2)) (fun p p' h1 h2 => hP (p.1, x :: p.2) (p'.1, x :: p'.2) h1 (h2.cons x))]
 | swap x y l =>
  intro P hP
  rw [splits_cons, splits_cons, splits_cons, splits_cons, splits_cons, splits_cons]
  have e1 : (splitsL l).countP (fun p => P (y :: x :: p.1, p.2)) = (splitsL l).countP (fun p => P (x :: y :: p.1, p.2)) := List.countP_congr fun p _ => by rw [hP (y :: x :: p.1, p.2) (x :: y :: p.1, p.2) (List.Perm.swap x y p.1) (List.Perm.refl _)]
  have e2 : (splitsL l).countP (fun p => P (p.1, y :: x :: p.2)) = (splitsL l).countP (fun p => P (p.1, x :: y :: p.2)) := List.countP_congr fun p _ => by rw [hP (p.1, y :: x :: p.2) (p.1, x :: y :: p.2) (List.Perm.refl _) (List.Perm.swap x y p.2)]
  simp only
  omega
 | trans _ _ h1 h2 =>
  intro P hP
  rw [h1 P hP, h2 P hP]
theorem split_mem_perm : ∀ (l : List Int) (p : List Int × List Int), p ∈ splitsL l → (p.1 ++ p.2).Perm l
 | [], p, hp => by
  obtain rfl := List.mem_singleton.1 hp
  exact List.Perm.refl _
 | x :: l, p, hp => by
  obtain ⟨q, hq, hp⟩ := List.mem_flatMap.1 hp
  have ih := split_mem_perm l q hq
  rcases List.mem_cons.1 hp with rfl | hp
  · exact ih.cons x
  · obtain rfl := List.mem_singleton.1 hp
    exact (List.perm_middle).trans (ih.cons x)
theorem cntB_perm {a b c d : List Int} (h : (c ++ d).Perm (a ++ b)) (hl : c.length = a.length) (q : Int → Bool) : cntB c d q = cntB a b q := by
 unfold cntB
 rw [hl]
 exact splits_perm h _ fun p p' h1 h2 => by rw [h1.length_eq, beatsI_perm h1 h2]
theorem chance_perm {a b c d : List Int} (h : (c ++ d).Perm (a ++ b)) (hl : c.length = a.length) (hl2 : d.length = b.length) : chanceI c d = lowI (cntB a b fun x => decide (farI (beatsI c d) ((a.length : Int) * b.length) ≤ farI x ((a.length : Int) * b.length))) (cntB a b fun _ => true) := by
 unfold chanceI
 rw [cntB_perm h hl, cntB_perm h hl, hl, hl2]
/-- Pascal's numbers. -/
def pas : Nat → Nat → Nat
 | 0, k => if k = 0 then 1 else 0
 | n + 1, k => pas n k + (if k = 0 then 0 else pas n (k - 1))
theorem splits_pas : ∀ (l : List Int) (k : Nat), (splitsL l).countP (fun p => decide (p.1.length = k)) = pas l.length k
 | [], k => by
  show ([([], [])] : List (List Int × List Int)).countP (fun p => decide (p.1.length = k)) = if k = 0 then 1 else 0
  rw [List.countP_cons, List.countP_nil]
  simp only [List.length_nil, decide_eq_true_eq]
  by_cases h : k = 0
  · rw [if_pos h.symm, if_pos h]
  · rw [if_neg (fun e => h e.symm), if_neg h]
 | x :: l, k => by
  rw [splits_cons, List.length_cons, pas, ← splits_pas l k, ← splits_pas l (k - 1)]
  simp only [List.length_cons]
  by_cases h : k = 0
  · rw [if_pos h, h]
    have : (splitsL l).countP (fun p => decide (p.1.length + 1 = 0)) = 0 := List.countP_eq_zero.2 fun p _ => by simp
    rw [this]
    omega
  · rw [if_neg h]
    have : (splitsL l).countP (fun p => decide (p.1.length + 1 = k)) = (splitsL l).countP (fun p => decide (p.1.length = k - 1)) := List.countP_congr fun p _ => by
     simp only [decide_eq_true_eq]
     omega
    rw [this]
    omega
theorem pas_small : ∀ n : Nat, n < 9 → ∀ k : Nat, k < 9 → pas n k ≤ 70 := by decide +kernel
theorem cntB_pas (a b : List Int) : cntB a b (fun _ => true) = pas (a.length + b.length) a.length := by
 unfold cntB
 rw [← List.length_append, ← splits_pas]
 exact List.countP_congr fun p _ => by simp
theorem cntB_mono (a b : List Int) (q q' : Int → Bool) (h : ∀ x, q x = true → q' x = true) : cntB a b q ≤ cntB a b q' := by
 unfold cntB
 refine List.countP_mono_left fun p _ hp => ?_
 rw [Bool.and_eq_true] at hp ⊢
 exact ⟨hp.1, h _ hp.2⟩
theorem lowI_facts (s t : Nat) (ht : 0 < t) (hs : s ≤ t) : 1 ≤ (lowI s t).2 ∧ (lowI s t).2 ≤ t ∧ 0 ≤ (lowI s t).1 ∧ (lowI s t).1 ≤ (lowI s t).2 := by
 unfold lowI
 have hg := Nat.gcd_pos_of_pos_right s ht
 have hd : Nat.gcd s t ≤ t := Nat.gcd_le_right s ht
 have h1 : 0 < t / Nat.gcd s t := Nat.div_pos hd hg
 have h2 := Nat.div_le_self t (Nat.gcd s t)
 have h3 : s / Nat.gcd s t ≤ t / Nat.gcd s t := Nat.div_le_div_right hs
 simp only
 generalize t / Nat.gcd s t = u at *
 generalize s / Nat.gcd s t = v at *
 omega
/-- A fraction in lowest terms is at most another one just if the fraction itself is. -/
theorem lowI_le (s t : Nat) (ht : 0 < t) (n d : Int) : ((lowI s t).1 * d ≤ n * (lowI s t).2) ↔ ((s : Int) * d ≤ n * (t : Int)) := by
 obtain ⟨g, hg⟩ : ∃ g, g = Nat.gcd s t := ⟨_, rfl⟩
 have hg0 : 0 < g := by rw [hg]; exact Nat.gcd_pos_of_pos_right s ht
 have e1 : s = s / g * g := by rw [hg]; exact (Nat.div_mul_cancel (Nat.gcd_dvd_left s t)).symm
 have e2 : t = t / g * g := by rw [hg]; exact (Nat.div_mul_cancel (Nat.gcd_dvd_right s t)).symm
 unfold lowI
 rw [← hg]
 simp only
 obtain ⟨p, hp⟩ : ∃ p, p = s / g := ⟨_, rfl⟩
 obtain ⟨q, hq⟩ : ∃ q, q = t / g := ⟨_, rfl⟩
 rw [← hp] at e1 ⊢
 rw [← hq] at e2 ⊢
 have e3 : (s : Int) * d = (p : Int) * d * (g : Int) := by rw [e1]; push_cast; rw [Int.mul_assoc, Int.mul_comm (g : Int), ← Int.mul_assoc]
 have e4 : n * (t : Int) = n * (q : Int) * (g : Int) := by rw [e2]; push_cast; rw [← Int.mul_assoc]
 rw [e3, e4]
 have hgi : (0 : Int) < (g : Int) := by omega
 exact ⟨fun h => Int.mul_le_mul_of_nonneg_right h (by omega), fun h => Int.le_of_mul_le_mul_right h hgi⟩
theorem least_of {α : Type} (f : α → Int) : ∀ l : List α, l ≠ [] → ∃ m ∈ l, ∀ x ∈ l, f m ≤ f x
 | [], h => (h rfl).elim
 | [x], _ => ⟨x, by simp, fun y hy => by rw [List.mem_singleton.1 hy]; exact Int.le_refl _⟩
 | x :: y :: l, _ => by
  obtain ⟨m, hm, h⟩ := least_of f (y :: l) (by simp)
  by_cases c : f x ≤ f m
  · refine ⟨x, by simp, fun z hz => ?_⟩
    rcases List.mem_cons.1 hz with rfl | hz
    · exact Int.le_refl _
    · exact Int.le_trans c (h z hz)
  · refine ⟨m, List.mem_cons_of_mem _ hm, fun z hz => ?_⟩
    rcases List.mem_cons.1 hz with rfl | hz
    · omega
    · exact h z hz
/-- Whoever is as far out as few are, is one of few. -/
theorem rare {α : Type} (S : List α) (f : α → Int) (den B : Int) (hB : 0 ≤ B) (hd : 0 ≤ den) : ((S.countP fun s => decide (((S.countP fun t => decide (f s ≤ f t) : Nat) : Int) * den ≤ B) : Nat) : Int) * den ≤ B := by
 obtain ⟨R, hR⟩ : ∃ R : α → Bool, R = fun s => decide (((S.countP fun t => decide (f s ≤ f t) : Nat) : Int) * den ≤ B) := ⟨_, rfl⟩
 rw [← hR]
 by_cases h : S.filter R = []
 · have : S.countP R = 0 := by rw [List.countP_eq_length_filter, h]; rfl
   rw [this]
   simp [hB]
 · obtain ⟨m, hm, hmin⟩ := least_of f _ h
   obtain ⟨hmS, hmR⟩ := List.mem_filter.1 hm
   rw [hR] at hmR
   have hmR := of_decide_eq_true hmR
   have hle : S.countP R ≤ S.countP (fun t => decide (f m ≤ f t)) := List.countP_mono_left fun t ht hRt => decide_eq_true (hmin t (List.mem_filter.2 ⟨ht, hRt⟩))
   exact Int.le_trans (Int.mul_le_mul_of_nonneg_right (by omega) hd) hmR
theorem cntB_filter (a b : List Int) (q : Int → Bool) : cntB a b q = ((splitsL (a ++ b)).filter fun p => decide (p.1.length = a.length)).countP fun p => q (beatsI p.1 p.2) := by
 unfold cntB
 rw [List.countP_filter]
 exact List.countP_congr fun p _ => by rw [Bool.and_comm]
/-- No level is passed too often. -/
theorem level_law (a b : List Int) (mid num den : Int) (hn : 0 ≤ num) (hd : 0 ≤ den) :
  ((cntB a b (fun y => decide (((cntB a b (fun x => decide (farI y mid ≤ farI x mid)) : Nat) : Int) * den ≤ num * ((cntB a b (fun _ => true) : Nat) : Int))) : Nat) : Int) * den ≤ num * ((cntB a b (fun _ => true) : Nat) : Int) := by
 have h := rare ((splitsL (a ++ b)).filter fun p => decide (p.1.length = a.length)) (fun p => farI (beatsI p.1 p.2) mid) den (num * ((cntB a b (fun _ => true) : Nat) : Int)) (Int.mul_nonneg hn (by omega)) hd
 rw [cntB_filter a b (fun y => decide (((cntB a b (fun x => decide (farI y mid ≤ farI x mid)) : Nat) : Int) * den ≤ num * ((cntB a b (fun _ => true) : Nat) : Int)))]
 have e : ∀ y, ((splitsL (a ++ b)).filter fun p => decide (p.1.length = a.length)).countP (fun p => decide (farI y mid ≤ farI (beatsI p.1 p.2) mid)) = cntB a b (fun x => decide (farI y mid ≤ farI x mid)) := fun y => (cntB_filter a b (fun x => decide (farI y mid ≤ farI x mid))).symm
 simp only [e] at h
 exact h
theorem SmpOK.of_mem {a b c : List Int} (ha : SmpOK a) (hb : SmpOK b) (hc : ∀ x ∈ c, x ∈ a ++ b) (h1 : 1 ≤ c.length) (h5 : c.length ≤ 5) : SmpOK c :=
 ⟨h1, h5, fun x hx => by
  rcases List.mem_append.1 (hc x hx) with h | h
  · exact ha.2.2 x h
  · exact hb.2.2 x h⟩
theorem split_mem {l : List Int} {p : List Int × List Int} (hp : p ∈ splitsL l) : (∀ x ∈ p.1, x ∈ l) ∧ (∀ x ∈ p.2, x ∈ l) := by
 have h := split_mem_perm l p hp
 exact ⟨fun x hx => h.subset (List.mem_append_left _ hx), fun x hx => h.subset (List.mem_append_right _ hx)⟩
theorem SmpOK.take {a : List Int} (h : SmpOK a) (n : Nat) (hn : 1 ≤ n) : SmpOK (a.take n) := ⟨by rw [List.length_take]; have := h.1; omega, by rw [List.length_take]; have := h.2.1; omega, fun x hx => h.2.2 x (List.mem_of_mem_take hx)⟩

end Go.Proofs.Ythddeillkdediaa.H
