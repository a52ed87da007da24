/- Texts PB, HP, PD, PE, TA of this chapter, one behind the other. -/
import Derived.Laws.IdiomArrays
import Derived.Lib.SmallJoins
import Derived.Maps.AppendAt
import Derived.OpenShut
import Derived.Test.YtkocigldchiifaaQA0
import Derived.Test.YtkocigldchiifaaQA5
import Derived.Test.YtkocigldchiifaaQA6
import Derived.Test.YtkocigldchiifaaQA9
import Derived.Test.YtkocigldchiifaaXD
import Derived.Test.YtkocigldchiifaaXE
import Derived.Test.YtkocigldchiifaaXF
import Derived.Test.YtkocigldchiifaaXG
import Derived.Test.YtkocigldchiifaaXH
import Derived.Test.YtkocigldchiifaaXI

/- What the reference answers is what the program answers: checks, distances, gaps, walks. -/
namespace Go.Proofs.Ytkocigldchiifaa.H
open Go.RowKit Go.Proofs.YtkocigldchiifaaW.PrintWords Go.Proofs.YtkocigldchiifaaW.PrintLast Go.Proofs.YtkocigldchiifaaW.PrintMore
open Go.Shelf Go.Proofs.Ytkocigldchiifaa.QA
set_option linter.unusedVariables false
set_option linter.unusedSimpArgs false

theorem is_f (x lo hi : Int) : pianolaref07_is.f x lo hi = some (isIn lo x hi) := by
 unfold pianolaref07_is.f pianolaref01_Is.f isIn
 by_cases h : x ≥ lo
 · rw [if_pos h]; simp; omega
 · rw [if_neg h]; simp; omega
theorem checked_l (l : List S59) (hl : l.length ≤ 30) : ∀ (n j k : Nat), l.length - j = n → j ≤ l.length → n + 1 ≤ k → pianolaref07_checked.l0 k (l.map ev) (j : Int) = some (if (l.drop j).any (fun x => !goodB x) = true then 3 else 0) := by
 intro n
 induction n with
 | zero =>
  intro j k h1 h2 h3
  obtain ⟨k, rfl⟩ : ∃ k', k = k' + 1 := ⟨k - 1, by omega⟩
  unfold pianolaref07_checked.l0
  rw [List.length_map, if_neg (by omega), List.drop_eq_nil_of_le (by omega)]
  rfl
 | succ n ih =>
  intro j k h1 h2 h3
  obtain ⟨k, rfl⟩ : ∃ k', k = k' + 1 := ⟨k - 1, by omega⟩
  unfold pianolaref07_checked.l0
  rw [List.length_map, if_pos (by omega), if_pos (by omega), rd_ev]
  have hlt : j < l.length := by omega
  have hd : l.drop j = rd_T59 l j :: l.drop (j + 1) := by
   rw [List.drop_eq_getElem_cons hlt]
   unfold rd_T59
   rw [Int.toNat_natCast, List.getD_eq_getElem?_getD, List.getElem?_eq_getElem hlt]
   rfl
  rw [hd, List.any_cons]
  have hw : wrap64 ((j : Int) + 1) = ((j + 1 : Nat) : Int) := wrap_up j (by omega)
  have hi := ih (j + 1) k (by omega) (by omega) (by omega)
  rw [hw, hi]
  simp only [is_f, Option.bind_some]
  show (if isIn 1 (rd_T59 l j).f0 88 = true then (if isIn 0 (rd_T59 l j).f1 1000 = true then (if isIn 0 (rd_T59 l j).f2 1000 = true then _ else _) else _) else _) = _
  unfold goodB
  cases isIn 1 (rd_T59 l j).f0 88 <;> cases isIn 0 (rd_T59 l j).f1 1000 <;> cases isIn 0 (rd_T59 l j).f2 1000 <;> simp
theorem checked_f (l : List S59) (k : Nat) (hk : 40 ≤ k) : pianolaref07_checked.f k (l.map ev) = some (chk l) := by
 unfold pianolaref07_checked.f chk
 rw [List.length_map]
 by_cases h0 : l.length = 0
 · rw [if_pos (by omega), if_pos h0]
 · rw [if_neg (by omega), if_neg h0]
   by_cases h1 : 30 < l.length
   · rw [if_pos (by omega), if_pos h1]
   · rw [if_neg (by omega), if_neg h1]
     exact checked_l l (by omega) l.length 0 k (by omega) (by omega) (by omega)
theorem refCheck_f (a b : List S59) (k : Nat) (hk : 40 ≤ k) : pianolaref07_Check.f k (a.map ev) (b.map ev) = align_Check.f a b := by
 unfold pianolaref07_Check.f align_Check.f
 rw [checked_f a k hk, checked_f b k hk]
 show (if chk a = 0 then _ else _) = _
 by_cases h : chk a = 0
 · rw [if_pos h, if_pos h]; rfl
 · rw [if_neg h, if_neg h]
theorem paired_f {a b : List S59} (hR : Rolls a b) (p q : Int) : pianolaref07_paired.f (a.map ev) (b.map ev) p q = some (hasP a b p q) := by
 have h0 := hR.ha
 have h1 := hR.hb
 unfold pianolaref07_paired.f hasP
 rw [is_f, is_f, List.length_map, List.length_map, w64' _ (by omega) (by omega), w64' _ (by omega) (by omega)]
 show (if isIn 0 p _ = true then some (isIn 0 q _) else some false) = _
 cases isIn 0 p ((a.length : Int) - 1) <;> simp
end Go.Proofs.Ytkocigldchiifaa.H

/- given and listed: lists turned into the reference's. -/
namespace Go.Proofs.Ytkocigldchiifaa.H
open Go.RowKit Go.Proofs.YtkocigldchiifaaW.PrintWords Go.Proofs.YtkocigldchiifaaW.PrintLast Go.Proofs.YtkocigldchiifaaW.PrintMore
open Go.Shelf Go.Proofs.Ytkocigldchiifaa.QA
set_option linter.unusedVariables false
set_option linter.unusedSimpArgs false

/-- A pair, as the reference has it. -/
def pr (q : S25) : S35 := ⟨q.f0, q.f1⟩
theorem info79 : (Try.prog.info? 79).map (fun i => (i.zero, i.size, i.bytes)) = some (some (.agg #[(.int .i64 0), (.int .i64 0), (.int .i64 0)]), 3, 24) := by kernel_rfl
theorem cellsP_append' (xs ys : List S25) : cellsP (xs ++ ys) = cellsP xs ++ cellsP ys := by simp [cellsP]
theorem cellsP_one' (xs : List S25) : ∀ u ∈ cellsP xs, u.oneCell' = true := by
 intro u hu
 obtain ⟨x, _, hx⟩ := List.mem_flatMap.1 hu
 simp only [List.mem_cons, List.not_mem_nil, or_false] at hx
 rcases hx with rfl | rfl <;> rfl

/-- An own row of the reference's. -/
def OwnR (W : World) (base : Nat) (v : Value) (xs : List S59) : Prop := W.ownsRow base 79 3 v xs.length (cellsE xs)
theorem OwnR_reps (w : World) (base : Nat) (ok : Nat → Prop) (xs : List S59) : Reps (k79.M w base ok) 3 (xs.map ev) (cellsE xs) := by
 have h : ∀ (ys zs : List S59), Reps (k79.M w base ok) 3 (ys.map ev) (cellsE ys) → Reps (k79.M w base ok) 3 ((ys ++ zs).map ev) (cellsE (ys ++ zs)) := fun ys zs => by
  induction zs generalizing ys with
  | nil => intro h; simpa using h
  | cons z zs ih =>
   intro h
   have := ih (ys ++ [z]) (by
    have h2 := h.snoc (p := ev z) (c := [.int .i64 z.f0, .int .i64 z.f1, .int .i64 z.f2]) (k79_mkM w base ok (ev z)) rfl
    simpa [cellsE] using h2)
   simpa using this
 simpa using h [] xs (Reps.none _ _)
theorem OwnR.R {W : World} {base : Nat} {v : Value} {xs : List S59} (h : OwnR W base v xs) : Kd.R k79 79 W base (fun _ => True) v (xs.map ev) := ⟨fun _ _ => trivial, cellsE xs, by rw [List.length_map]; exact h, OwnR_reps _ _ _ xs⟩
theorem OwnR.below {W W' : World} {base : Nat} {v : Value} {xs : List S59} (h : OwnR W base v xs) (hb : Below W.heap.size W W') : OwnR W' base v xs := by
 obtain ⟨h1, h2⟩ := h
 refine ⟨h1, ?_⟩
 rcases h2 with h2 | ⟨g, cap, cur, h3, h4, h5, h6⟩
 · exact .inl h2
 · exact .inr ⟨g, cap, cur, h3, h4, (hb.block g (Array.getElem?_eq_some_iff.1 h5).1).trans h5, h6⟩
theorem wpList_append_OwnR {ops : Array Oper} {rest : List Oper} {o : Oper} {a : Act} {Q : Exit → Act → World → Prop} {W : World} (hgd : o.guard = none) (s x : Operand)
  (ho : o.op = .call { callee := .builtin .append, args := #[s, x], argTypes := #[29, 29] }) (base : Nat) (v : Value) (xs ys : List S59) (hs : a.eval s = v) (hv : OwnR W base v xs) (ad : Addr) (m c : Nat) (hx : a.eval x = .slice (some ad) m c) (hm : m = ys.length)
  (hc : ∀ j u, (cellsE ys)[j]? = some u → W.cell? (ad.add j) = some u) (hl : xs.length + m ≤ 1000000) (hb : base ≤ W.heap.size)
  (h : ∀ v' w', OwnR w' base v' (xs ++ ys) → Below base W w' → W.grownBy w' v.ownBlock → wpList Try.prog ops Q rest (a.put o.dst v') w') : wpList Try.prog ops Q (o :: rest) a W := by
 obtain ⟨i0, hi, hz0, hz1, hz2⟩ := info_parts info79
 have hM : maxLen = 9223372036854775807 := rfl
 refine wpList_append_own_at _ hgd s x 29 ho base 79 i0 (.agg #[(.int .i64 0), (.int .i64 0), (.int .i64 0)]) 3 24 Try.underlying29 hi hz0 hz1 hz2 rfl (by decide) v xs.length (cellsE xs) hs hv ad m c (cellsE ys) hx (by rw [cellsE_len, hm]) hc (cellsE_one ys) (by omega) (by omega) hb ?_
 intro v' w' h1 h2 h3 h4
 refine h v' w' ?_ ((Below.refl _ _).grown h2 hb (fun j ej => own_base hv j ej)) h2
 unfold OwnR
 rw [cellsE_append, List.length_append, ← hm]
 exact h1
set_option maxRecDepth 100000 in
set_option maxHeartbeats 2000000 in
theorem pianolalaw07_given_calls (A0 : Option Addr) (c0 : Nat) (l : List S59) (w : World) (hr0 : Kd.C k59 w A0 l.length l) (hc0 : l.length ≤ c0) (hl : l.length ≤ 5000) :
  Calls Try.prog 16 #[.slice A0 l.length c0] w fun e w' => ∃ v : Value, e = .returned v ∧ Kd.R k79 79 w' w.heap.size (fun _ => True) v (l.map ev) ∧ Below w.heap.size w w' := by
 have hu59 := Try.underlying59
 have hu25 := Try.underlying25
 have HR := Aside0.mk hr0
 have HC := Aside0.mk hc0
 have HL := Aside0.mk hl
 clear hr0 hc0 hl
 go_enter Try.func16, Try.ntmps16
 go_wp2
 go_loopw [3, 4] (fun s0 s1 wr => ∃ i : Nat, i ≤ l.length ∧ s1 = .int .i64 i ∧ Aside0 (OwnR wr w.heap.size s0 (l.take i)) ∧ Aside0 (Below w.heap.size w wr)) (fun _ s1 _ => l.length - (intOf s1).toNat)
 case atStart => exact ⟨0, by omega, rfl, ⟨⟨rfl, .inl ⟨rfl, rfl⟩⟩⟩, ⟨Below.refl _ _⟩⟩
 case round =>
  obtain ⟨i, hi, rfl, HO, HB⟩ := hrel
  by_cases hlt : i < l.length
  · have hd : decide ((i : Int) < (l.length : Int)) = true := decide_eq_true (Int.ofNat_lt.2 hlt)
    obtain ⟨ad2, had, x0, x1, x2⟩ := at_T59 (Kd.C_below HR.out HB.out) (i : Int) (Int.natCast_nonneg i) (Int.ofNat_lt.2 hlt)
    cases had
    have hsn : l.take i ++ [rd_T59 l (i : Int)] = l.take (i + 1) := by
     rw [List.take_add_one]
     unfold rd_T59
     rw [Int.toNat_natCast, List.getD_eq_getElem?_getD, List.getElem?_eq_getElem hlt]
     rfl
    rw [Int.toNat_natCast] at x0 x1 x2
    generalize hp : rd_T59 l (i : Int) = p at x0 x1 x2 hsn
    have HS := Aside0.mk hsn
    have HJ := Aside0.mk hlt
    clear hp hsn
    go_wp2_with (at_builtin; refine Aside0.out ?_)
    refine ⟨?_⟩
    have hb3 := below_alloc (Below.refl wr.heap.size wr) (.cells #[.int .i64 p.f0, .int .i64 p.f1, .int .i64 p.f2] 79)
    refine wpList_append_OwnR rfl _ _ rfl w.heap.size _ (l.take i) [p] rfl (HO.out.below hb3) ⟨wr.heap.size, 0, none⟩ 1 1 rfl rfl (fun k u hu => by simpa using World.news_of_block (cs := #[.int .i64 p.f0, .int .i64 p.f1, .int .i64 p.f2]) (t := 79) (fr := (0, 0)) (heap_alloc_new wr (.cells #[.int .i64 p.f0, .int .i64 p.f1, .int .i64 p.f2] 79)) k u (by simpa [cellsE] using hu)) (by have := HJ.out; have := HL.out; rw [List.length_take]; omega) (Nat.le_trans HB.out.size hb3.size) ?_
    intro v4 w4 hO4 hb4 hg4
    go_wp2
    rw [HS.out] at hO4
    have hb5 : Below w.heap.size w w4 := (HB.out.trans (hb3.mono HB.out.size)).trans hb4
    clear hd
    rw [wrap_up i (by have := HL.out; omega)]
    refine ⟨⟨i + 1, hlt, rfl, ⟨hO4⟩, ⟨hb5⟩⟩, ?_⟩
    show l.length - (((i + 1 : Nat) : Int)).toNat < l.length - ((i : Int)).toNat
    omega
  · have hd : decide ((i : Int) < (l.length : Int)) = false := decide_eq_false (fun h => hlt (Int.ofNat_lt.1 h))
    obtain rfl : i = l.length := Nat.le_antisymm hi (Nat.le_of_not_lt hlt)
    have HOx := HO.out
    rw [List.take_length] at HOx
    have HO2 := Aside0.mk HOx
    clear HOx HO hlt
    go_wp2
    go_ret
    exact ⟨_, rfl, HO2.out.R, HB.out⟩

/-- An own row of the reference's. -/
def OwnQ (W : World) (base : Nat) (v : Value) (xs : List S25) : Prop := W.ownsRow base 35 2 v xs.length (cellsP xs)
theorem OwnQ_reps (w : World) (base : Nat) (ok : Nat → Prop) (xs : List S25) : Reps (k35.M w base ok) 2 (xs.map pr) (cellsP xs) := by
 have h : ∀ (ys zs : List S25), Reps (k35.M w base ok) 2 (ys.map pr) (cellsP ys) → Reps (k35.M w base ok) 2 ((ys ++ zs).map pr) (cellsP (ys ++ zs)) := fun ys zs => by
  induction zs generalizing ys with
  | nil => intro h; simpa using h
  | cons z zs ih =>
   intro h
   have := ih (ys ++ [z]) (by
    have h2 := h.snoc (p := pr z) (c := [.int .i64 z.f0, .int .i64 z.f1]) (k35_mkM w base ok (pr z)) rfl
    simpa [cellsP] using h2)
   simpa using this
 simpa using h [] xs (Reps.none _ _)
theorem OwnQ.R {W : World} {base : Nat} {v : Value} {xs : List S25} (h : OwnQ W base v xs) : Kd.R k35 35 W base (fun _ => True) v (xs.map pr) := ⟨fun _ _ => trivial, cellsP xs, by rw [List.length_map]; exact h, OwnQ_reps _ _ _ xs⟩
theorem OwnQ.below {W W' : World} {base : Nat} {v : Value} {xs : List S25} (h : OwnQ W base v xs) (hb : Below W.heap.size W W') : OwnQ W' base v xs := by
 obtain ⟨h1, h2⟩ := h
 refine ⟨h1, ?_⟩
 rcases h2 with h2 | ⟨g, cap, cur, h3, h4, h5, h6⟩
 · exact .inl h2
 · exact .inr ⟨g, cap, cur, h3, h4, (hb.block g (Array.getElem?_eq_some_iff.1 h5).1).trans h5, h6⟩
theorem wpList_append_OwnQ {ops : Array Oper} {rest : List Oper} {o : Oper} {a : Act} {Q : Exit → Act → World → Prop} {W : World} (hgd : o.guard = none) (s x : Operand)
  (ho : o.op = .call { callee := .builtin .append, args := #[s, x], argTypes := #[41, 41] }) (base : Nat) (v : Value) (xs ys : List S25) (hs : a.eval s = v) (hv : OwnQ W base v xs) (ad : Addr) (m c : Nat) (hx : a.eval x = .slice (some ad) m c) (hm : m = ys.length)
  (hc : ∀ j u, (cellsP ys)[j]? = some u → W.cell? (ad.add j) = some u) (hl : xs.length + m ≤ 1000000) (hb : base ≤ W.heap.size)
  (h : ∀ v' w', OwnQ w' base v' (xs ++ ys) → Below base W w' → W.grownBy w' v.ownBlock → wpList Try.prog ops Q rest (a.put o.dst v') w') : wpList Try.prog ops Q (o :: rest) a W := by
 obtain ⟨i0, hi, hz0, hz1, hz2⟩ := info_parts info35
 have hM : maxLen = 9223372036854775807 := rfl
 refine wpList_append_own_at _ hgd s x 41 ho base 35 i0 (.agg #[(.int .i64 0), (.int .i64 0)]) 2 16 Try.underlying41 hi hz0 hz1 hz2 rfl (by decide) v xs.length (cellsP xs) hs hv ad m c (cellsP ys) hx (by rw [cellsP_len, hm]) hc (cellsP_one' ys) (by omega) (by omega) hb ?_
 intro v' w' h1 h2 h3 h4
 refine h v' w' ?_ ((Below.refl _ _).grown h2 hb (fun j ej => own_base hv j ej)) h2
 unfold OwnQ
 rw [cellsP_append', List.length_append, ← hm]
 exact h1
set_option maxRecDepth 100000 in
set_option maxHeartbeats 2000000 in
theorem pianolalaw07_listed_calls (A0 : Option Addr) (c0 : Nat) (l : List S25) (w : World) (hr0 : Kd.C k25 w A0 l.length l) (hc0 : l.length ≤ c0) (hl : l.length ≤ 5000) :
  Calls Try.prog 29 #[.slice A0 l.length c0] w fun e w' => ∃ v : Value, e = .returned v ∧ Kd.R k35 35 w' w.heap.size (fun _ => True) v (l.map pr) ∧ Below w.heap.size w w' := by
 have hu59 := Try.underlying59
 have hu25 := Try.underlying25
 have HR := Aside0.mk hr0
 have HC := Aside0.mk hc0
 have HL := Aside0.mk hl
 clear hr0 hc0 hl
 go_enter Try.func29, Try.ntmps29
 go_wp2
 go_loopw [3, 4] (fun s0 s1 wr => ∃ i : Nat, i ≤ l.length ∧ s1 = .int .i64 i ∧ Aside0 (OwnQ wr w.heap.size s0 (l.take i)) ∧ Aside0 (Below w.heap.size w wr)) (fun _ s1 _ => l.length - (intOf s1).toNat)
 case atStart => exact ⟨0, by omega, rfl, ⟨⟨rfl, .inl ⟨rfl, rfl⟩⟩⟩, ⟨Below.refl _ _⟩⟩
 case round =>
  obtain ⟨i, hi, rfl, HO, HB⟩ := hrel
  by_cases hlt : i < l.length
  · have hd : decide ((i : Int) < (l.length : Int)) = true := decide_eq_true (Int.ofNat_lt.2 hlt)
    obtain ⟨ad2, had, x0, x1⟩ := at_T25 (Kd.C_below HR.out HB.out) (i : Int) (Int.natCast_nonneg i) (Int.ofNat_lt.2 hlt)
    cases had
    have hsn : l.take i ++ [rd_T25 l (i : Int)] = l.take (i + 1) := by
     rw [List.take_add_one]
     unfold rd_T25
     rw [Int.toNat_natCast, List.getD_eq_getElem?_getD, List.getElem?_eq_getElem hlt]
     rfl
    rw [Int.toNat_natCast] at x0 x1
    generalize hp : rd_T25 l (i : Int) = p at x0 x1 hsn
    have HS := Aside0.mk hsn
    have HJ := Aside0.mk hlt
    clear hp hsn
    go_wp2_with (at_builtin; refine Aside0.out ?_)
    refine ⟨?_⟩
    have hb3 := below_alloc (Below.refl wr.heap.size wr) (.cells #[.int .i64 p.f0, .int .i64 p.f1] 35)
    refine wpList_append_OwnQ rfl _ _ rfl w.heap.size _ (l.take i) [p] rfl (HO.out.below hb3) ⟨wr.heap.size, 0, none⟩ 1 1 rfl rfl (fun k u hu => by simpa using World.news_of_block (cs := #[.int .i64 p.f0, .int .i64 p.f1]) (t := 35) (fr := (0, 0)) (heap_alloc_new wr (.cells #[.int .i64 p.f0, .int .i64 p.f1] 35)) k u (by simpa [cellsP] using hu)) (by have := HJ.out; have := HL.out; rw [List.length_take]; omega) (Nat.le_trans HB.out.size hb3.size) ?_
    intro v4 w4 hO4 hb4 hg4
    go_wp2
    rw [HS.out] at hO4
    have hb5 : Below w.heap.size w w4 := (HB.out.trans (hb3.mono HB.out.size)).trans hb4
    clear hd
    rw [wrap_up i (by have := HL.out; omega)]
    refine ⟨⟨i + 1, hlt, rfl, ⟨hO4⟩, ⟨hb5⟩⟩, ?_⟩
    show l.length - (((i + 1 : Nat) : Int)).toNat < l.length - ((i : Int)).toNat
    omega
  · have hd : decide ((i : Int) < (l.length : Int)) = false := decide_eq_false (fun h => hlt (Int.ofNat_lt.1 h))
    obtain rfl : i = l.length := Nat.le_antisymm hi (Nat.le_of_not_lt hlt)
    have HOx := HO.out
    rw [List.take_length] at HOx
    have HO2 := Aside0.mk HOx
    clear HOx HO hlt
    go_wp2
    go_ret
    exact ⟨_, rfl, HO2.out.R, HB.out⟩

end Go.Proofs.Ytkocigldchiifaa.H

/- The reference's Verify answers as the program's does. -/
namespace Go.Proofs.Ytkocigldchiifaa.H
open Go.RowKit Go.Proofs.YtkocigldchiifaaW.PrintWords Go.Proofs.YtkocigldchiifaaW.PrintLast Go.Proofs.YtkocigldchiifaaW.PrintMore
open Go.Shelf Go.Proofs.Ytkocigldchiifaa.QA
set_option linter.unusedVariables false
set_option linter.unusedSimpArgs false

theorem rd_pr (l : List S25) (i : Int) : rd_T35 (l.map pr) i = pr (rd_T25 l i) := by
 unfold rd_T35 rd_T25
 rw [List.getD_eq_getElem?_getD, List.getElem?_map, List.getD_eq_getElem?_getD]
 cases l[i.toNat]? <;> rfl
theorem begins_f {b : List S59} (hb : 1 ≤ b.length ∧ b.length ≤ 30) (a : List S59) (i k : Int) : pianolaref07_begins.f (b.map ev) i k = some (begB a b i k) := by
 unfold pianolaref07_begins.f begB
 rw [List.length_map, w64' _ (by omega) (by omega)]
 by_cases h : i = 0
 · rw [if_pos h, h]; rfl
 · rw [if_neg h]
   have : (i == 0) = false := beq_false_of_ne h
   rw [this]; rfl
theorem ends_f {a : List S59} (ha : 1 ≤ a.length ∧ a.length ≤ 30) (b : List S59) (i k : Int) : pianolaref07_ends.f (a.map ev) i k = some (endB a b i k) := by
 unfold pianolaref07_ends.f endB
 rw [List.length_map, w64' _ (by omega) (by omega)]
 by_cases h : i = (a.length : Int) - 1
 · rw [if_pos h, h]; simp
 · rw [if_neg h]
   have : (i == (a.length : Int) - 1) = false := beq_false_of_ne h
   rw [this]; rfl
theorem follows_f (p q : S25) (h0 : 0 ≤ p.f0 ∧ p.f0 ≤ 1000) (h1 : 0 ≤ p.f1 ∧ p.f1 ≤ 1000) : pianolaref07_follows.f p.f0 p.f1 q.f0 q.f1 = some (preB p q) := by
 unfold pianolaref07_follows.f preB
 rw [w64' (p.f0 + 1) (by omega) (by omega), w64' (p.f1 - 1) (by omega) (by omega)]
 by_cases h2 : q.f0 ≤ p.f0 + 1
 · rw [if_pos h2]
   by_cases h3 : q.f1 ≥ p.f1 - 1
   · rw [if_pos h3, decide_eq_true h2, decide_eq_true h3]
     cases (q.f0 == p.f0 + 1) <;> cases (q.f1 == p.f1 - 1) <;> rfl
   · rw [if_neg h3, decide_eq_false h3]; simp
 · rw [if_neg h2, decide_eq_false h2]; simp
section
variable {a b : List S59}
theorem ver_l0 (hR : Rolls a b) (h : Int) (l : List S25) (h0 : 0 < l.length) (hl : l.length ≤ 5000) : ∀ (n i k : Nat), l.length - i = n → i ≤ l.length → (∀ j, j < i → hasP a b (rd_T25 l j).f0 (rd_T25 l j).f1 = true) → 2 * n + 1 ≤ k →
  pianolaref07_Verify.l0 k (a.map ev) (b.map ev) h (l.map pr) (i : Int) = some (if vfFrom a b h l n i = 0 then (if begB a b (rd_T25 l 0).f0 (rd_T25 l 0).f1 = true ∧ endB a b (rd_T25 l ((l.length : Int) - 1)).f0 (rd_T25 l ((l.length : Int) - 1)).f1 = true then 0 else 7) else vfFrom a b h l n i) := by
 have ha := hR.ha
 have hb := hR.hb
 intro n
 induction n with
 | zero =>
  intro i k h1 h2 h3 hk
  obtain ⟨k, rfl⟩ : ∃ k', k = k' + 1 := ⟨k - 1, by omega⟩
  have e : vfFrom a b h l 0 i = 0 := rfl
  rw [e, if_pos rfl, pianolaref07_Verify.l0, List.length_map, if_neg (by omega), if_pos (by omega), rd_pr, w64' ((l.length : Int) - 1) (by omega) (by omega), rd_pr]
  show (pianolaref07_begins.f (b.map ev) (rd_T25 l 0).f0 (rd_T25 l 0).f1).bind _ = _
  rw [begins_f hb a]
  show (if begB a b (rd_T25 l 0).f0 (rd_T25 l 0).f1 = true then (if _ then (if _ then (pianolaref07_ends.f (a.map ev) (rd_T25 l ((l.length : Int) - 1)).f0 (rd_T25 l ((l.length : Int) - 1)).f1).bind _ else _) else _) else _) = _
  rw [ends_f ha b]
  cases begB a b (rd_T25 l 0).f0 (rd_T25 l 0).f1
  · simp
  · rw [if_pos rfl, if_pos (by omega), if_pos (by omega)]
    cases endB a b (rd_T25 l ((l.length : Int) - 1)).f0 (rd_T25 l ((l.length : Int) - 1)).f1 <;> simp
 | succ n ih =>
  intro i k h1 h2 h3 hk
  obtain ⟨k, rfl⟩ : ∃ k', k = k' + 2 := ⟨k - 2, by omega⟩
  rw [pianolaref07_Verify.l0, List.length_map, if_pos (by omega), if_pos (by omega), rd_pr]
  show (pianolaref07_paired.f (a.map ev) (b.map ev) (rd_T25 l i).f0 (rd_T25 l i).f1).bind _ = _
  rw [paired_f hR]
  show (if hasP a b (rd_T25 l i).f0 (rd_T25 l i).f1 = true then _ else _) = _
  have hv : vfFrom a b h l (n + 1) i = if vfAt a b h l i = 0 then vfFrom a b h l n (i + 1) else vfAt a b h l i := rfl
  by_cases hp : hasP a b (rd_T25 l i).f0 (rd_T25 l i).f1 = true
  · obtain ⟨p1, p2⟩ := (hasP_iff a b _ _).1 hp
    have hd := dist_f (rd_good hR.ga _ p1) (rd_good hR.gb _ p2)
    have hih := ih (i + 1) k (by omega) (by omega) (fun j hj => by
     by_cases e : j = i
     · rw [e]; exact hp
     · exact h3 j (by omega)) (by omega)
    rw [if_pos hp]
    have hj1 : ∀ z : Bool, z = (decide (0 < i) && !preB (rd_T25 l ((i : Int) - 1)) (rd_T25 l i)) → pianolaref07_Verify.j1 (k + 1) (a.map ev) (b.map ev) h (l.map pr) (i : Int) z (rd_T25 l i).f0 (rd_T25 l i).f1 = some (if vfFrom a b h l (n + 1) i = 0 then (if begB a b (rd_T25 l 0).f0 (rd_T25 l 0).f1 = true ∧ endB a b (rd_T25 l ((l.length : Int) - 1)).f0 (rd_T25 l ((l.length : Int) - 1)).f1 = true then 0 else 7) else vfFrom a b h l (n + 1) i) := fun z hz => by
     rw [pianolaref07_Verify.j1, hv]
     have hvf : vfAt a b h l i = if z = true then 13 else if farD (rd_T59 a (rd_T25 l i).f0) (rd_T59 b (rd_T25 l i).f1) ≤ h then 14 else 0 := by
      unfold vfAt
      rw [if_neg (by rw [hp]; simp), hz]
      by_cases c1 : 0 < i
      · cases hpr : preB (rd_T25 l ((i : Int) - 1)) (rd_T25 l i) <;> simp [c1]
      · simp [c1]
     rw [hvf]
     cases z with
     | true => rfl
     | false =>
      have z0 : ¬ (false = true) := by simp
      rw [if_neg z0, if_neg z0, List.length_map, List.length_map, if_pos p1.1, if_pos p1.2, if_pos p2.1, if_pos p2.2, rd_ev, rd_ev]
      show (pianolaref07_distance.f (rd_T59 a (rd_T25 l i).f0).f0 (rd_T59 a (rd_T25 l i).f0).f1 (rd_T59 a (rd_T25 l i).f0).f2 (rd_T59 b (rd_T25 l i).f1).f0 (rd_T59 b (rd_T25 l i).f1).f1 (rd_T59 b (rd_T25 l i).f1).f2).bind _ = _
      rw [hd]
      show (if farD (rd_T59 a (rd_T25 l i).f0) (rd_T59 b (rd_T25 l i).f1) ≤ h then _ else _) = _
      by_cases c2 : farD (rd_T59 a (rd_T25 l i).f0) (rd_T59 b (rd_T25 l i).f1) ≤ h
      · rw [if_pos c2, if_pos c2]; rfl
      · rw [if_neg c2, if_neg c2, if_pos rfl, wrap_up i (by omega), hih]
    by_cases c1 : 0 < i
    · obtain ⟨j, rfl⟩ : ∃ j, i = j + 1 := ⟨i - 1, by omega⟩
      have ej : ((j + 1 : Nat) : Int) - 1 = (j : Int) := by omega
      obtain ⟨s1, s2⟩ := (hasP_iff a b _ _).1 (h3 j (by omega))
      rw [if_pos (by omega), w64' (((j + 1 : Nat) : Int) - 1) (by omega) (by omega), ej, if_pos (by omega), if_pos (by omega), rd_pr]
      show (pianolaref07_follows.f (rd_T25 l j).f0 (rd_T25 l j).f1 (rd_T25 l ((j + 1 : Nat) : Int)).f0 (rd_T25 l ((j + 1 : Nat) : Int)).f1).bind _ = _
      rw [follows_f (rd_T25 l j) (rd_T25 l ((j + 1 : Nat) : Int)) (by omega) (by omega)]
      exact hj1 _ (by rw [ej]; simp)
    · rw [if_neg (by omega)]
      exact hj1 _ (by simp [c1])
  · have hp' : hasP a b (rd_T25 l i).f0 (rd_T25 l i).f1 = false := by simpa using hp
    have hvf : vfAt a b h l i = 8 := by
     unfold vfAt
     rw [if_pos hp']
    rw [if_neg hp, hv, hvf]
    rfl
end
theorem refVerify_f (a b : List S59) (h : Int) (l : List S25) (k : Nat) (hl : l.length ≤ 5000) (hk : 2 * l.length + 40 ≤ k) : pianolaref07_Verify.f k (a.map ev) (b.map ev) h (l.map pr) = align_Verify.f a b h l := by
 unfold pianolaref07_Verify.f align_Verify.f
 rw [refCheck_f a b k (by omega)]
 cases hc : align_Check.f a b with
 | none => rfl
 | some e =>
  show (if e = 0 then _ else _) = some (if e = 0 then _ else _)
  by_cases he : e = 0
  · subst he
    have hR := rolls_of hc
    rw [if_pos rfl, if_pos rfl, List.length_map]
    unfold verF
    by_cases h0 : l.length = 0
    · rw [if_pos (by omega), if_pos h0]
    · rw [if_neg (by omega), if_neg h0]
      exact ver_l0 hR h l (by omega) hl l.length 0 k (by omega) (by omega) (fun j hj => by omega) (by omega)
  · rw [if_neg he, if_neg he]

end Go.Proofs.Ytkocigldchiifaa.H

/- The reference's search for a barrier: it finds one just if there is one. -/
namespace Go.Proofs.Ytkocigldchiifaa.H
open Go.RowKit Go.Proofs.YtkocigldchiifaaW.PrintWords Go.Proofs.YtkocigldchiifaaW.PrintLast Go.Proofs.YtkocigldchiifaaW.PrintMore
open Go.Shelf Go.Proofs.Ytkocigldchiifaa.QA
set_option linter.unusedVariables false
set_option linter.unusedSimpArgs false

/-- What a search says: there is a barrier, or there is none. -/
def Ans (a b : List S59) (h : Int) (r : Option (List S35 × Int)) : Prop := ∃ l e, r = some (l, e) ∧ ((e = 0 ∧ ∃ p, Chn a b h p ∧ endB a b p.f0 p.f1 = true) ∨ (e = 8 ∧ l = [] ∧ ∀ p, Chn a b h p → endB a b p.f0 p.f1 = false))
def intsN (os : List Nat) : List Int := os.map fun o : Nat => (o : Int)
theorem intsN_len (os : List Nat) : (intsN os).length = os.length := by simp [intsN]
theorem rd_intsN (os : List Nat) (j : Nat) (hj : j < os.length) : rd (intsN os) (j : Int) = ((os.getD j 0 : Nat) : Int) := by
 unfold rd intsN
 rw [Int.toNat_natCast, List.getD_eq_getElem?_getD, List.getElem?_map, List.getElem?_eq_getElem hj, List.getD_eq_getElem?_getD, List.getElem?_eq_getElem hj]
 rfl
/-- The search's lists: which pairs were reached, from which ones, and marks. -/
structure Br (a b : List S59) (h : Int) (os : List Nat) (fr : List Int) (met : List Bool) : Prop where
 fl : fr.length = os.length
 ml : met.length = (aboveOf a b h).length
 mo : ∀ o ∈ os, o < (aboveOf a b h).length ∧ Chn a b h ((aboveOf a b h).getD o z25)
 mt : ∀ i, i < (aboveOf a b h).length → (met.getD i false = true ↔ i ∈ os)
 nd : os.Nodup
 ft : ∀ j, j < os.length → rd fr (j : Int) = -1 ∨ ∃ i : Nat, i < j ∧ rd fr (j : Int) = (i : Int)
section
variable {a b : List S59} {h : Int} {os : List Nat} {fr : List Int} {met : List Bool}
theorem Br.len (hb : Br a b h os fr met) : os.length ≤ (aboveOf a b h).length := nodup_le _ os hb.nd (fun o ho => (hb.mo o ho).1)
theorem Br.push (hb : Br a b h os fr met) (i : Nat) (f : Int) (hi : i < (aboveOf a b h).length) (hn : i ∉ os) (hc : Chn a b h ((aboveOf a b h).getD i z25)) (hf : f = -1 ∨ ∃ j : Nat, j < os.length ∧ f = (j : Int)) :
  Br a b h (os ++ [i]) (fr ++ [f]) (met.set i true) := by
 refine ⟨by simp [hb.fl], by simp [hb.ml], fun o ho => ?_, fun j hj => ?_, ?_, fun j hj => ?_⟩
 · rcases List.mem_append.1 ho with ho | ho
   · exact hb.mo o ho
   · rw [List.mem_singleton.1 ho]; exact ⟨hi, hc⟩
 · rw [List.getD_eq_getElem?_getD]
   by_cases e : i = j
   · subst e
     rw [List.getElem?_set_self (by rw [hb.ml]; exact hi)]
     simp
   · rw [List.getElem?_set_ne e, ← List.getD_eq_getElem?_getD, hb.mt j hj]
     simp [Ne.symm e]
 · rw [List.nodup_append]
   refine ⟨hb.nd, by simp, fun x hx y hy => ?_⟩
   rw [List.mem_singleton.1 hy]
   exact fun e => hn (e ▸ hx)
 · have hr : ∀ x : Nat, x < os.length → rd (fr ++ [f]) (x : Int) = rd fr (x : Int) := fun x hx => by
    unfold rd
    rw [Int.toNat_natCast, List.getD_eq_getElem?_getD, List.getElem?_append_left (by rw [hb.fl]; exact hx), ← List.getD_eq_getElem?_getD]
   rw [List.length_append, List.length_singleton] at hj
   by_cases e : j < os.length
   · rw [hr j e]; exact hb.ft j e
   · obtain rfl : j = os.length := by omega
     have hl : rd (fr ++ [f]) ((os.length : Nat) : Int) = f := by
      unfold rd
      rw [Int.toNat_natCast, ← hb.fl, List.getD_eq_getElem?_getD]
      simp
     rw [hl]
     exact hf
theorem Br.start (a b : List S59) (h : Int) : Br a b h [] [] (List.replicate (aboveOf a b h).length false) :=
 ⟨rfl, by simp, fun o ho => (by cases ho), fun i hi => (by rw [List.getD_eq_getElem?_getD, List.getElem?_replicate]; simp [hi]), List.nodup_nil, fun j hj => (by cases hj)⟩
theorem above_nat (hR : Rolls a b) (i : Nat) (hi : i < (aboveOf a b h).length) : (aboveOf a b h).getD i z25 ∈ aboveOf a b h ∧ (0 ≤ ((aboveOf a b h).getD i z25).f0 ∧ ((aboveOf a b h).getD i z25).f0 ≤ 1000) ∧ (0 ≤ ((aboveOf a b h).getD i z25).f1 ∧ ((aboveOf a b h).getD i z25).f1 ≤ 1000) := by
 have hm : (aboveOf a b h).getD i z25 ∈ aboveOf a b h := by
  rw [List.getD_eq_getElem?_getD, List.getElem?_eq_getElem hi]
  exact List.getElem_mem _
 have := (hasP_iff a b _ _).1 ((mem_above a b h _).1 hm).1
 have := hR.ha
 have := hR.hb
 exact ⟨hm, by omega, by omega⟩
theorem rd_all (i : Nat) : rd_T35 ((aboveOf a b h).map pr) (i : Int) = pr ((aboveOf a b h).getD i z25) := by
 rw [rd_pr]
 unfold rd_T25
 rw [Int.toNat_natCast]
/-- The list is told backwards. -/
theorem bar_l4 (hb : Br a b h os fr met) (hs : os.length ≤ 5000) : ∀ (j k : Nat) (x18 : List S35), j < os.length → j + 2 ≤ k → x18.length + j ≤ 6000 → ∃ l, pianolaref07_Barrier.l4 k ((aboveOf a b h).map pr) (intsN os) fr x18 (j : Int) = some (l, 0) := by
 intro j
 induction j using Nat.strongRecOn with
 | _ j ih =>
  intro k x18 hj hk hx
  obtain ⟨k, rfl⟩ : ∃ k', k = k' + 1 := ⟨k - 1, by omega⟩
  have ho : os.getD j 0 ∈ os := by
   rw [List.getD_eq_getElem?_getD, List.getElem?_eq_getElem hj]
   exact List.getElem_mem _
  have hlt := (hb.mo _ ho).1
  have hfl := hb.fl
  rw [pianolaref07_Barrier.l4, if_pos (by omega), if_pos (by omega), intsN_len, if_pos (by omega), rd_intsN os j hj, if_pos (by omega), List.length_map, if_pos (by omega)]
  simp only [Option.bind_some]
  rw [if_pos (by simp; omega), if_pos (by omega)]
  rcases hb.ft j hj with e | ⟨i, hi, e⟩
  · obtain ⟨k, rfl⟩ : ∃ k', k = k' + 1 := ⟨k - 1, by omega⟩
    rw [e, pianolaref07_Barrier.l4, if_neg (by omega)]
    exact ⟨_, rfl⟩
  · rw [e]
    exact ih i hi k _ (by omega) (by omega) (by simp; omega)
/-- All pairs that can come right behind one. -/
theorem bar_l5 (hR : Rolls a b) (x0 : List S79) (at_ o k2 : Nat) (ho : o < (aboveOf a b h).length) (hN : (aboveOf a b h).length ≤ 1000) : ∀ (n i : Nat) (os : List Nat) (fr : List Int) (met : List Bool), (aboveOf a b h).length - i = n → i ≤ (aboveOf a b h).length → Br a b h os fr met → at_ < os.length → os.getD at_ 0 = o →
  (∀ j, j < i → preB ((aboveOf a b h).getD o z25) ((aboveOf a b h).getD j z25) = true → j ∈ os) →
  ∃ os' fr' met', Br a b h os' fr' met' ∧ (∃ t, os' = os ++ t) ∧ (∀ j, j < (aboveOf a b h).length → preB ((aboveOf a b h).getD o z25) ((aboveOf a b h).getD j z25) = true → j ∈ os') ∧
   pianolaref07_Barrier.l5 (n + 1 + k2) x0 ((aboveOf a b h).map pr) (intsN os) fr met (at_ : Int) (i : Int) ((aboveOf a b h).getD o z25).f0 ((aboveOf a b h).getD o z25).f1 = pianolaref07_Barrier.l3 k2 x0 ((aboveOf a b h).map pr) (intsN os') fr' met' ((at_ + 1 : Nat) : Int) := by
 intro n
 induction n with
 | zero =>
  intro i os fr met h1 h2 hb hat hao hc
  refine ⟨os, fr, met, hb, ⟨[], by simp⟩, fun j hj => hc j (by omega), ?_⟩
  rw [show 0 + 1 + k2 = k2 + 1 by omega, pianolaref07_Barrier.l5, List.length_map, if_neg (by omega), wrap_up at_ (by have := hb.len; omega)]
 | succ n ih =>
  intro i os fr met h1 h2 hb hat hao hc
  have hi : i < (aboveOf a b h).length := by omega
  obtain ⟨p0, p1, p2⟩ := above_nat hR o ho
  rw [show n + 1 + 1 + k2 = (n + 1 + k2) + 1 by omega, pianolaref07_Barrier.l5, List.length_map, if_pos (by omega), if_pos (by omega), if_pos (by rw [hb.ml]; omega), wrap_up i (by omega), rd_all]
  have hrd : rdOf false met (i : Int) = met.getD i false := by unfold rdOf; rw [Int.toNat_natCast]
  rw [hrd]
  by_cases hm : met.getD i false = true
  · rw [if_pos hm]
    exact ih (i + 1) os fr met (by omega) (by omega) hb hat hao (fun j hj hp => by
     by_cases e : j = i
     · rw [e]; exact (hb.mt i hi).1 hm
     · exact hc j (by omega) hp)
  · rw [if_neg hm]
    show ∃ os' fr' met', _ ∧ _ ∧ _ ∧ (pianolaref07_follows.f ((aboveOf a b h).getD o z25).f0 ((aboveOf a b h).getD o z25).f1 ((aboveOf a b h).getD i z25).f0 ((aboveOf a b h).getD i z25).f1).bind _ = _
    rw [follows_f _ _ p1 p2]
    simp only [Option.bind_some]
    by_cases hp : preB ((aboveOf a b h).getD o z25) ((aboveOf a b h).getD i z25) = true
    · have hni : i ∉ os := fun e => hm ((hb.mt i hi).2 e)
      have hom : o ∈ os := by
       rw [← hao, List.getD_eq_getElem?_getD, List.getElem?_eq_getElem hat]
       exact List.getElem_mem _
      have hch : Chn a b h ((aboveOf a b h).getD i z25) := .step _ _ (hb.mo o hom).2 (above_nat hR i hi).1 hp
      have hb' := hb.push i (at_ : Int) hi hni hch (.inr ⟨at_, hat, rfl⟩)
      have hlen := hb.len
      have hfl := hb.fl
      rw [if_pos hp, intsN_len, if_pos (by omega), if_pos (by omega), Int.toNat_natCast]
      obtain ⟨os', fr', met', g1, ⟨t, g2⟩, g3, g4⟩ := ih (i + 1) (os ++ [i]) (fr ++ [(at_ : Int)]) (met.set i true) (by omega) (by omega) hb' (by simp; omega) (by rw [List.getD_eq_getElem?_getD, List.getElem?_append_left hat, ← List.getD_eq_getElem?_getD]; exact hao) (fun j hj hq => by
       by_cases e : j = i
       · rw [e]; simp
       · exact List.mem_append_left _ (hc j (by omega) hq))
      refine ⟨os', fr', met', g1, ⟨[i] ++ t, by rw [g2]; simp⟩, g3, ?_⟩
      rw [← g4]
      unfold intsN
      rw [List.map_append]
      rfl
    · rw [if_neg hp]
      exact ih (i + 1) os fr met (by omega) (by omega) hb hat hao (fun j hj hq => by
       by_cases e : j = i
       · rw [e] at hq; exact absurd hq hp
       · exact hc j (by omega) hq)
/-- The search in breadth. -/
theorem bar_l3 (hR : Rolls a b) (hN : (aboveOf a b h).length ≤ 1000) : ∀ (n j k : Nat) (os : List Nat) (fr : List Int) (met : List Bool), (aboveOf a b h).length - j = n → j ≤ os.length → Br a b h os fr met → (∀ i, i < (aboveOf a b h).length → begB a b ((aboveOf a b h).getD i z25).f0 ((aboveOf a b h).getD i z25).f1 = true → i ∈ os) →
  (∀ i, i < j → endB a b ((aboveOf a b h).getD (os.getD i 0) z25).f0 ((aboveOf a b h).getD (os.getD i 0) z25).f1 = false ∧ ∀ q, q < (aboveOf a b h).length → preB ((aboveOf a b h).getD (os.getD i 0) z25) ((aboveOf a b h).getD q z25) = true → q ∈ os) →
  n * ((aboveOf a b h).length + 3) + (aboveOf a b h).length + 5 ≤ k → Ans a b h (pianolaref07_Barrier.l3 k (a.map ev) ((aboveOf a b h).map pr) (intsN os) fr met (j : Int)) := by
 intro n
 induction n with
 | zero =>
  intro j k os fr met h1 h2 hb hg hp hk
  have hlen := hb.len
  obtain ⟨k, rfl⟩ : ∃ k', k = k' + 1 := ⟨k - 1, by omega⟩
  rw [pianolaref07_Barrier.l3, intsN_len, if_neg (by omega)]
  refine ⟨[], 8, rfl, .inr ⟨rfl, rfl, fun p hc => ?_⟩⟩
  have hjl : j = os.length := by omega
  refine closed_none (os.map fun o => (aboveOf a b h).getD o z25) (fun q hq hbq => ?_) (fun p hpm => ?_) p hc
  · obtain ⟨i, hi⟩ := List.getElem?_of_mem hq
    have hil := (List.getElem?_eq_some_iff.1 hi).1
    have e : (aboveOf a b h).getD i z25 = q := by rw [List.getD_eq_getElem?_getD, hi]; rfl
    exact List.mem_map.2 ⟨i, hg i hil (by rw [e]; exact hbq), e⟩
  · obtain ⟨o, ho, rfl⟩ := List.mem_map.1 hpm
    obtain ⟨i, hi⟩ := List.getElem?_of_mem ho
    have hil := (List.getElem?_eq_some_iff.1 hi).1
    have e : os.getD i 0 = o := by rw [List.getD_eq_getElem?_getD, hi]; rfl
    obtain ⟨g1, g2⟩ := hp i (by omega)
    rw [e] at g1 g2
    refine ⟨g1, fun q hq hpq => ?_⟩
    obtain ⟨x, hx⟩ := List.getElem?_of_mem hq
    have hxl := (List.getElem?_eq_some_iff.1 hx).1
    have ex : (aboveOf a b h).getD x z25 = q := by rw [List.getD_eq_getElem?_getD, hx]; rfl
    exact List.mem_map.2 ⟨x, g2 x hxl (by rw [ex]; exact hpq), ex⟩
 | succ n ih =>
  intro j k os fr met h1 h2 hb hg hp hk
  have hlen := hb.len
  obtain ⟨k, rfl⟩ : ∃ k', k = k' + 1 := ⟨k - 1, by omega⟩
  rw [pianolaref07_Barrier.l3, intsN_len]
  by_cases hj : j < os.length
  · have hom : os.getD j 0 ∈ os := by
     rw [List.getD_eq_getElem?_getD, List.getElem?_eq_getElem hj]
     exact List.getElem_mem _
    obtain ⟨ho, hch⟩ := hb.mo _ hom
    rw [if_pos (by omega), if_pos (by omega), rd_intsN os j hj, if_pos (by omega), List.length_map, if_pos (by omega), rd_all]
    show Ans a b h ((pianolaref07_ends.f (a.map ev) ((aboveOf a b h).getD (os.getD j 0) z25).f0 ((aboveOf a b h).getD (os.getD j 0) z25).f1).bind _)
    rw [ends_f hR.ha b]
    simp only [Option.bind_some]
    by_cases he : endB a b ((aboveOf a b h).getD (os.getD j 0) z25).f0 ((aboveOf a b h).getD (os.getD j 0) z25).f1 = true
    · rw [if_pos he]
      obtain ⟨l, hl⟩ := bar_l4 hb (by omega) j k [] hj (by omega) (by simp; omega)
      rw [hl]
      exact ⟨l, 0, rfl, .inl ⟨rfl, _, hch, he⟩⟩
    · rw [if_neg he]
      have he' : endB a b ((aboveOf a b h).getD (os.getD j 0) z25).f0 ((aboveOf a b h).getD (os.getD j 0) z25).f1 = false := by simpa using he
      have hmul : (n + 1) * ((aboveOf a b h).length + 3) = n * ((aboveOf a b h).length + 3) + (aboveOf a b h).length + 3 := by rw [Nat.add_mul, Nat.one_mul]; omega
      obtain ⟨k2, hk2⟩ : ∃ k2, k = (aboveOf a b h).length + 1 + k2 := ⟨k - (aboveOf a b h).length - 1, by omega⟩
      obtain ⟨os', fr', met', g1, ⟨t, g2⟩, g3, g4⟩ := bar_l5 hR (a.map ev) j (os.getD j 0) k2 ho hN (aboveOf a b h).length 0 os fr met (by omega) (by omega) hb hj rfl (fun j hj => by omega)
      rw [hk2]
      show Ans a b h (pianolaref07_Barrier.l5 _ _ _ _ _ _ _ ((0 : Nat) : Int) ((aboveOf a b h).getD (os.getD j 0) z25).f0 ((aboveOf a b h).getD (os.getD j 0) z25).f1)
      rw [g4]
      have hpre : ∀ i, i < os.length → os'.getD i 0 = os.getD i 0 := fun i hi => by
       rw [g2, List.getD_eq_getElem?_getD, List.getElem?_append_left hi, ← List.getD_eq_getElem?_getD]
      refine ih (j + 1) k2 os' fr' met' (by omega) (by rw [g2]; simp; omega) g1 (fun i hi hbi => by rw [g2]; exact List.mem_append_left _ (hg i hi hbi)) (fun i hi => ?_) (by omega)
      rw [hpre i (by omega)]
      by_cases e : i = j
      · rw [e]; exact ⟨he', g3⟩
      · obtain ⟨q1, q2⟩ := hp i (by omega)
        exact ⟨q1, fun q hq hpq => by rw [g2]; exact List.mem_append_left _ (q2 q hq hpq)⟩
  · rw [if_neg (by omega)]
    refine ⟨[], 8, rfl, .inr ⟨rfl, rfl, fun p hc => ?_⟩⟩
    have hjl : j = os.length := by omega
    refine closed_none (os.map fun o => (aboveOf a b h).getD o z25) (fun q hq hbq => ?_) (fun p hpm => ?_) p hc
    · obtain ⟨i, hi⟩ := List.getElem?_of_mem hq
      have hil := (List.getElem?_eq_some_iff.1 hi).1
      have e : (aboveOf a b h).getD i z25 = q := by rw [List.getD_eq_getElem?_getD, hi]; rfl
      exact List.mem_map.2 ⟨i, hg i hil (by rw [e]; exact hbq), e⟩
    · obtain ⟨o, ho, rfl⟩ := List.mem_map.1 hpm
      obtain ⟨i, hi⟩ := List.getElem?_of_mem ho
      have hil := (List.getElem?_eq_some_iff.1 hi).1
      have e : os.getD i 0 = o := by rw [List.getD_eq_getElem?_getD, hi]; rfl
      obtain ⟨g1, g2⟩ := hp i (by omega)
      rw [e] at g1 g2
      refine ⟨g1, fun q hq hpq => ?_⟩
      obtain ⟨x, hx⟩ := List.getElem?_of_mem hq
      have hxl := (List.getElem?_eq_some_iff.1 hx).1
      have ex : (aboveOf a b h).getD x z25 = q := by rw [List.getD_eq_getElem?_getD, hx]; rfl
      exact List.mem_map.2 ⟨x, g2 x hxl (by rw [ex]; exact hpq), ex⟩
/-- The pairs that can begin. -/
theorem bar_l2 (hR : Rolls a b) (hN : (aboveOf a b h).length ≤ 1000) (k2 : Nat) : ∀ (n i : Nat) (os : List Nat) (fr : List Int) (met : List Bool), (aboveOf a b h).length - i = n → i ≤ (aboveOf a b h).length → Br a b h os fr met → (∀ o ∈ os, o < i) → (∀ j, j < i → begB a b ((aboveOf a b h).getD j z25).f0 ((aboveOf a b h).getD j z25).f1 = true → j ∈ os) →
  ∃ os' fr' met', Br a b h os' fr' met' ∧ (∀ j, j < (aboveOf a b h).length → begB a b ((aboveOf a b h).getD j z25).f0 ((aboveOf a b h).getD j z25).f1 = true → j ∈ os') ∧
   pianolaref07_Barrier.l2 (n + 1 + k2) (a.map ev) (b.map ev) ((aboveOf a b h).map pr) (intsN os) fr met (i : Int) = pianolaref07_Barrier.l3 k2 (a.map ev) ((aboveOf a b h).map pr) (intsN os') fr' met' 0 := by
 intro n
 induction n with
 | zero =>
  intro i os fr met h1 h2 hb hi hg
  refine ⟨os, fr, met, hb, fun j hj => hg j (by omega), ?_⟩
  rw [show 0 + 1 + k2 = k2 + 1 by omega, pianolaref07_Barrier.l2, List.length_map, if_neg (by omega)]
 | succ n ih =>
  intro i os fr met h1 h2 hb hi hg
  have hil : i < (aboveOf a b h).length := by omega
  have hlen := hb.len
  have hfl := hb.fl
  rw [show n + 1 + 1 + k2 = (n + 1 + k2) + 1 by omega, pianolaref07_Barrier.l2, List.length_map, if_pos (by omega), if_pos (by omega), rd_all, wrap_up i (by omega)]
  show ∃ os' fr' met', _ ∧ _ ∧ (pianolaref07_begins.f (b.map ev) ((aboveOf a b h).getD i z25).f0 ((aboveOf a b h).getD i z25).f1).bind _ = _
  rw [begins_f hR.hb a]
  simp only [Option.bind_some]
  by_cases hp : begB a b ((aboveOf a b h).getD i z25).f0 ((aboveOf a b h).getD i z25).f1 = true
  · have hb' := hb.push i (-1) hil (fun e => by have := hi i e; omega) (.beg _ (above_nat hR i hil).1 hp) (.inl rfl)
    rw [if_pos hp, intsN_len, if_pos (by omega), if_pos (by omega), if_pos (by rw [hb.ml]; omega), Int.toNat_natCast]
    obtain ⟨os', fr', met', g1, g3, g4⟩ := ih (i + 1) (os ++ [i]) (fr ++ [-1]) (met.set i true) (by omega) (by omega) hb' (fun o ho => by
     rcases List.mem_append.1 ho with ho | ho
     · have := hi o ho; omega
     · rw [List.mem_singleton.1 ho]; omega) (fun j hj hq => by
     by_cases e : j = i
     · rw [e]; simp
     · exact List.mem_append_left _ (hg j (by omega) hq))
    refine ⟨os', fr', met', g1, g3, ?_⟩
    rw [← g4]
    unfold intsN
    rw [List.map_append]
    rfl
  · rw [if_neg hp]
    exact ih (i + 1) os fr met (by omega) (by omega) hb (fun o ho => by have := hi o ho; omega) (fun j hj hq => by
     by_cases e : j = i
     · rw [e] at hq; exact absurd hq hp
     · exact hg j (by omega) hq)
theorem bar_l1 (hR : Rolls a b) (k2 i : Nat) (hi : i < a.length) (hN : (aboveOf a b h).length ≤ 1000) : ∀ (n j : Nat), b.length - j = n → j ≤ b.length →
  pianolaref07_Barrier.l1 (n + 1 + k2) (a.map ev) (b.map ev) h ((abvTo a b h i ++ abvRow a b h i j).map pr) (i : Int) (j : Int) = pianolaref07_Barrier.l0 k2 (a.map ev) (b.map ev) h ((abvTo a b h (i + 1)).map pr) ((i + 1 : Nat) : Int) := by
 have ha := hR.ha
 have hb := hR.hb
 intro n
 induction n with
 | zero =>
  intro j h1 h2
  obtain rfl : j = b.length := by omega
  rw [show 0 + 1 + k2 = k2 + 1 by omega, pianolaref07_Barrier.l1, List.length_map, if_neg (by omega), wrap_up i (by omega), ← abvTo_succ]
 | succ n ih =>
  intro j h1 h2
  have hlen : (abvTo a b h i ++ abvRow a b h i j).length ≤ 1000 := Nat.le_trans (abv_pre a b h hi h2).length_le hN
  have hgx := rd_good hR.ga (i : Int) (by omega)
  have hgy := rd_good hR.gb (j : Int) (by omega)
  have hd := dist_f hgx hgy
  rw [show n + 1 + 1 + k2 = (n + 1 + k2) + 1 by omega, pianolaref07_Barrier.l1, List.length_map, if_pos (by omega), if_pos (by omega), List.length_map, if_pos (by omega), if_pos (by omega), rd_ev, rd_ev, wrap_up j (by omega)]
  show (pianolaref07_distance.f (rd_T59 a i).f0 (rd_T59 a i).f1 (rd_T59 a i).f2 (rd_T59 b j).f0 (rd_T59 b j).f1 (rd_T59 b j).f2).bind _ = _
  rw [hd]
  simp only [Option.bind_some]
  have hi2 := ih (j + 1) (by omega) (by omega)
  rw [abvRow_succ] at hi2
  by_cases c : farD (rd_T59 a i) (rd_T59 b j) > h
  · rw [if_pos c, List.length_map, if_pos (by omega)]
    rw [if_pos (by omega), ← List.append_assoc, List.map_append] at hi2
    exact hi2
  · rw [if_neg c]
    rw [if_neg (by omega), List.append_nil] at hi2
    exact hi2
theorem bar_l0 (hR : Rolls a b) (k2 : Nat) (hN : (aboveOf a b h).length ≤ 1000) : ∀ (n i : Nat), a.length - i = n → i ≤ a.length →
  pianolaref07_Barrier.l0 (n * (b.length + 2) + 1 + k2) (a.map ev) (b.map ev) h ((abvTo a b h i).map pr) (i : Int) = pianolaref07_Barrier.l2 k2 (a.map ev) (b.map ev) ((aboveOf a b h).map pr) [] [] (List.replicate (aboveOf a b h).length false) 0 := by
 intro n
 induction n with
 | zero =>
  intro i h1 h2
  obtain rfl : i = a.length := by omega
  have e : abvTo a b h a.length = aboveOf a b h := rfl
  rw [show 0 * (b.length + 2) + 1 + k2 = k2 + 1 by omega, pianolaref07_Barrier.l0, List.length_map, if_neg (by omega), e, List.length_map, if_pos (by omega), Int.toNat_natCast, if_pos (by omega)]
 | succ n ih =>
  intro i h1 h2
  have hmul : (n + 1) * (b.length + 2) + 1 + k2 = (b.length + 1 + (n * (b.length + 2) + 1 + k2)) + 1 := by rw [Nat.add_mul]; omega
  rw [hmul, pianolaref07_Barrier.l0, List.length_map, if_pos (by omega)]
  have h3 := bar_l1 hR (n * (b.length + 2) + 1 + k2) i (by omega) hN b.length 0 (by omega) (by omega)
  rw [show abvRow a b h i 0 = [] from rfl, List.append_nil] at h3
  rw [show ((0 : Nat) : Int) = 0 from rfl] at h3
  rw [h3]
  exact ih (i + 1) (by omega) (by omega)
theorem aboveR_len (hR : Rolls a b) : (aboveOf a b h).length ≤ 1000 := by
 have h1 : ∀ (i m : Nat), (abvRow a b h i m).length ≤ m := fun i m => by
  unfold abvRow
  refine Nat.le_trans (List.length_filter_le _ _) (by simp)
 have h2 : ∀ n : Nat, (abvTo a b h n).length ≤ n * b.length := fun n => by
  induction n with
  | zero => simp [abvTo]
  | succ n ih =>
   rw [abvTo_succ, List.length_append, Nat.add_mul, Nat.one_mul]
   have := h1 n b.length
   omega
 have h3 := h2 a.length
 have h4 := hR.ha
 have h5 := hR.hb
 have h6 : a.length * b.length ≤ 30 * 30 := Nat.mul_le_mul h4.2 h5.2
 show (abvTo a b h a.length).length ≤ 1000
 omega
end
/-- The reference's Barrier says whether there is one. -/
theorem refBarrier_f {a b : List S59} (hR : Rolls a b) (h : Int) : ∃ k, Ans a b h (pianolaref07_Barrier.f k (a.map ev) (b.map ev) h) := by
 have hN := aboveR_len (h := h) hR
 obtain ⟨N, hNe⟩ : ∃ N, N = (aboveOf a b h).length := ⟨_, rfl⟩
 obtain ⟨k3, hk3⟩ : ∃ k3, k3 = N * (N + 3) + N + 45 := ⟨_, rfl⟩
 refine ⟨a.length * (b.length + 2) + 1 + (N + 1 + k3), ?_⟩
 unfold pianolaref07_Barrier.f
 rw [refCheck_f a b _ (by omega), check_ok hR]
 show Ans a b h (pianolaref07_Barrier.l0 _ _ _ h (([] : List S25).map pr) ((0 : Nat) : Int))
 rw [show ([] : List S25) = abvTo a b h 0 from rfl, bar_l0 hR _ hN a.length 0 (by omega) (by omega), hNe]
 obtain ⟨os', fr', met', g1, g2, g3⟩ := bar_l2 hR hN k3 (aboveOf a b h).length 0 [] [] _ (by omega) (by omega) (Br.start a b h) (fun o ho => by cases ho) (fun j hj => by omega)
 show Ans a b h (pianolaref07_Barrier.l2 _ _ _ _ (intsN []) [] _ ((0 : Nat) : Int))
 rw [g3]
 exact bar_l3 hR hN (aboveOf a b h).length 0 k3 os' fr' met' (by omega) (by omega) g1 g2 (fun i hi => by omega) (by rw [hk3, hNe]; omega)
/-- .. and where the rolls are refused, with what error. -/
theorem refBarrier_no {a b : List S59} {e : Int} (hc : align_Check.f a b = some e) (he : e ≠ 0) (h : Int) : pianolaref07_Barrier.f 40 (a.map ev) (b.map ev) h = some ([], e) := by
 unfold pianolaref07_Barrier.f
 rw [refCheck_f a b _ (by omega), hc]
 show (if e = 0 then _ else _) = _
 rw [if_neg he]

end Go.Proofs.Ytkocigldchiifaa.H

/- Rolls and lists of pairs, opened; for the rows of chapter 07. -/
namespace Go.Proofs.Ytkocigldchiifaa.H
open Go.RowKit Go.Proofs.YtkocigldchiifaaW.PrintWords Go.Proofs.YtkocigldchiifaaW.PrintLast Go.Proofs.YtkocigldchiifaaW.PrintMore
open Go.ChangeShapes Go.WideShapes Go.Joins Go.Proofs.Ytkocigldchiifaa.QA
set_option linter.unusedVariables false
set_option linter.unusedSimpArgs false

theorem rowsOf {α : Type} {d : Kd α} {W : World} {a : Addr} {len cap : Nat} (hl : len ≤ cap) (hm : cap ≤ maxLen) (z : α) (P : α → Prop)
  (hq : ∀ i, i < len → ∃ (x : α) (c : List Value), P x ∧ d.K W x c ∧ ∀ j u, c[j]? = some u → W.cell? (a.add (i * d.sz + j)) = some u) :
  ∃ l : List α, len = l.length ∧ Kd.C d W (some a) l.length l ∧ ∀ x ∈ l, P x := by
 have hM : maxLen = 9223372036854775807 := rfl
 obtain ⟨F, hF⟩ : ∃ F : Nat → α, ∀ i, i < len → P (F i) ∧ ∃ c, d.K W (F i) c ∧ ∀ j u, c[j]? = some u → W.cell? (a.add (i * d.sz + j)) = some u :=
  ⟨fun i => if h : i < len then (hq i h).choose else z, fun i h => by
   dsimp only
   rw [dif_pos h]
   obtain ⟨c, h1, h2, h3⟩ := (hq i h).choose_spec
   exact ⟨h1, c, h2, h3⟩⟩
 refine ⟨(List.range len).map F, by simp, ⟨rfl, by simp; omega, fun _ => ⟨a, rfl, fun j p hj => ?_⟩⟩, fun x hx => ?_⟩
 · have hjl : j < len := by have := (List.getElem?_eq_some_iff.1 hj).1; simpa using this
   rw [List.getElem?_map, List.getElem?_range hjl] at hj
   obtain rfl := Option.some.inj hj
   obtain ⟨_, c, h1, h2⟩ := hF j hjl
   exact ⟨c, d.K_len h1, h1, h2⟩
 · obtain ⟨j, hj, rfl⟩ := List.mem_map.1 hx
   exact (hF j (by have := List.mem_range.1 hj; omega)).1
theorem trod_ev {H : Type} {enc : TypeId × Value → H} {w : World} {base : Nat} {spare : Nat → Bool} {held : Bool} {fuel : Nat} {c0 c1 c2 : Value} {x : DataW H × List MemPlace}
  (h : DataW.trod enc Try.prog w base spare held fuel 59 [c0, c1, c2] = some x) : ∃ y : S59, [c0, c1, c2] = [.int .i64 y.f0, .int .i64 y.f1, .int .i64 y.f2] := by
 have e3 : Try.prog.cellsOf 3 = 1 := by kernel_rfl
 obtain ⟨xs, m, _, _, _, hl, hi⟩ := DataW.trod_struct Try.underlying59 h
 match xs, hl with
 | [y0, y1, y2], _ =>
  have t0 := hi 0 _ rfl
  have t1 := hi 1 _ rfl
  have t2 := hi 2 _ rfl
  replace t0 : DataW.trod enc Try.prog w base spare held m 3 [c0] = some y0 := by simpa [e3] using t0
  replace t1 : DataW.trod enc Try.prog w base spare held m 3 [c1] = some y1 := by simpa [e3] using t1
  replace t2 : DataW.trod enc Try.prog w base spare held m 3 [c2] = some y2 := by simpa [e3] using t2
  obtain ⟨b0, r0, _, v0⟩ := DataW.trod_int Try.underlying3 t0
  obtain ⟨b1, r1, _, v1⟩ := DataW.trod_int Try.underlying3 t1
  obtain ⟨b2, r2, _, v2⟩ := DataW.trod_int Try.underlying3 t2
  simp only [List.cons.injEq, and_true] at r0 r1 r2
  subst r0 r1 r2
  exact ⟨⟨b0, b1, b2⟩, rfl⟩
theorem trod_pr {H : Type} {enc : TypeId × Value → H} {w : World} {base : Nat} {spare : Nat → Bool} {held : Bool} {fuel : Nat} {c0 c1 : Value} {x : DataW H × List MemPlace}
  (h : DataW.trod enc Try.prog w base spare held fuel 25 [c0, c1] = some x) : ∃ y : S25, [c0, c1] = [.int .i64 y.f0, .int .i64 y.f1] := by
 have e3 : Try.prog.cellsOf 3 = 1 := by kernel_rfl
 obtain ⟨xs, m, _, _, _, hl, hi⟩ := DataW.trod_struct Try.underlying25 h
 match xs, hl with
 | [y0, y1], _ =>
  have t0 := hi 0 _ rfl
  have t1 := hi 1 _ rfl
  replace t0 : DataW.trod enc Try.prog w base spare held m 3 [c0] = some y0 := by simpa [e3] using t0
  replace t1 : DataW.trod enc Try.prog w base spare held m 3 [c1] = some y1 := by simpa [e3] using t1
  obtain ⟨b0, r0, _, v0⟩ := DataW.trod_int Try.underlying3 t0
  obtain ⟨b1, r1, _, v1⟩ := DataW.trod_int Try.underlying3 t1
  simp only [List.cons.injEq, and_true] at r0 r1
  subst r0 r1
  exact ⟨⟨b0, b1⟩, rfl⟩
set_option maxRecDepth 100000 in
theorem open_roll {H : Type} {enc : TypeId × Value → H} {W : World} {r : Reach} {b0 : Nat} {v : Value} {d : DataW H} {p : List MemPlace}
  (hv : Value.okWide Try.prog W r b0 23 v) (h : DataW.Trod enc Try.prog W 0 (fun _ => true) true 23 v d p) :
  ∃ A c l, v = .slice A l.length c ∧ l.length ≤ c ∧ Kd.C k59 W A l.length l ∧ ∀ x ∈ l, True := by
 obtain ⟨A, n, c, rfl⟩ := okWide_slice Try.underlying23 hv
 have e59 : Try.prog.cellsOf 59 = 3 := by kernel_rfl
 have u23 : Try.prog.underlying 23 = some (.slice 59) := by kernel_rfl
 obtain ⟨fuel, hf⟩ := h
 rcases Go.Deep.open_slice u23 hf with ⟨hcs, _⟩ | ⟨a, len, cap, m, n3, D, Pl, hcs, _, hl, hm, hmm, _, hel⟩
 · simp [Value.cells] at hcs
   obtain ⟨rfl, rfl, rfl⟩ := hcs
   exact ⟨none, 0, [], rfl, Nat.le_refl _, Kd.C_nil _ _, fun x hx => by simp at hx⟩
 · simp [Value.cells] at hcs
   obtain ⟨rfl, rfl, rfl⟩ := hcs
   obtain ⟨l, rfl, hC, hw⟩ := rowsOf (d := k59) (W := W) (a := a) hl hm z59 (fun _ => True) (fun i hi => by
    obtain ⟨cs', k1, k2⟩ := hel i (by rw [hmm]; simp; omega)
    rw [e59] at k1
    obtain ⟨_, kl, kc⟩ := World.cells?_some k1
    match cs', kl with
    | [x0, x1, x2], _ =>
     obtain ⟨y, hy⟩ := trod_ev k2
     refine ⟨y, [x0, x1, x2], trivial, by rw [hy]; exact k59_mk _ _, fun j u hu => ?_⟩
     have hj : j < 3 := (List.getElem?_eq_some_iff.1 hu).1
     have := kc j hj
     rw [Addr.add_add] at this
     rw [← hu]
     exact this)
   exact ⟨some a, _, l, rfl, hl, hC, hw⟩
set_option maxRecDepth 100000 in
theorem open_pairs {H : Type} {enc : TypeId × Value → H} {W : World} {r : Reach} {b0 : Nat} {v : Value} {d : DataW H} {p : List MemPlace}
  (hv : Value.okWide Try.prog W r b0 38 v) (h : DataW.Trod enc Try.prog W 0 (fun _ => true) true 38 v d p) :
  ∃ A c l, v = .slice A l.length c ∧ l.length ≤ c ∧ Kd.C k25 W A l.length l ∧ ∀ x ∈ l, True := by
 obtain ⟨A, n, c, rfl⟩ := okWide_slice Try.underlying38 hv
 have e25 : Try.prog.cellsOf 25 = 2 := by kernel_rfl
 have u38 : Try.prog.underlying 38 = some (.slice 25) := by kernel_rfl
 obtain ⟨fuel, hf⟩ := h
 rcases Go.Deep.open_slice u38 hf with ⟨hcs, _⟩ | ⟨a, len, cap, m, n3, D, Pl, hcs, _, hl, hm, hmm, _, hel⟩
 · simp [Value.cells] at hcs
   obtain ⟨rfl, rfl, rfl⟩ := hcs
   exact ⟨none, 0, [], rfl, Nat.le_refl _, Kd.C_nil _ _, fun x hx => by simp at hx⟩
 · simp [Value.cells] at hcs
   obtain ⟨rfl, rfl, rfl⟩ := hcs
   obtain ⟨l, rfl, hC, hw⟩ := rowsOf (d := k25) (W := W) (a := a) hl hm z25 (fun _ => True) (fun i hi => by
    obtain ⟨cs', k1, k2⟩ := hel i (by rw [hmm]; simp; omega)
    rw [e25] at k1
    obtain ⟨_, kl, kc⟩ := World.cells?_some k1
    match cs', kl with
    | [x0, x1], _ =>
     obtain ⟨y, hy⟩ := trod_pr k2
     refine ⟨y, [x0, x1], trivial, by rw [hy]; exact k25_mk _ _, fun j u hu => ?_⟩
     have hj : j < 2 := (List.getElem?_eq_some_iff.1 hu).1
     have := kc j hj
     rw [Addr.add_add] at this
     rw [← hu]
     exact this)
   exact ⟨some a, _, l, rfl, hl, hC, hw⟩
end Go.Proofs.Ytkocigldchiifaa.H
