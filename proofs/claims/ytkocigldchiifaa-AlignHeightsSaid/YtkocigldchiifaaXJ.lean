/- Texts PB, HP, PD, HQ, HS, PG, PF, HT, TA of this chapter, one behind the other. -/
import Derived.Carry
import Derived.Laws.IdiomArrays
import Derived.Lib.SmallJoins
import Derived.LoopIn
import Derived.LoopNIn
import Derived.Maps.AppendAt
import Derived.OpenShut
import Derived.OwnWalkIn
import Derived.RangeFuncBound
import Derived.RangeFuncBox
import Derived.RangeFuncCalls
import Derived.RangeFuncLeaves
import Derived.RangeFuncNested
import Derived.RangeFuncWrites
import Derived.Shelf.Abstract
import Derived.Shelf.RegionOpen
import Derived.TacticsInMore
import Derived.WalkKit
import Derived.WalkSmall
import Derived.Test.YtkocigldchiifaaQA0
import Derived.Test.YtkocigldchiifaaQA6
import Derived.Test.YtkocigldchiifaaQA7
import Derived.Test.YtkocigldchiifaaQA8
import Derived.Test.YtkocigldchiifaaQA9
import Derived.Test.YtkocigldchiifaaXA
import Derived.Test.YtkocigldchiifaaXB
import Derived.Test.YtkocigldchiifaaXC
import Derived.Test.YtkocigldchiifaaXD
import Derived.Test.YtkocigldchiifaaXE
import Derived.Test.YtkocigldchiifaaXF
import Derived.Test.YtkocigldchiifaaXG
import Derived.Test.YtkocigldchiifaaXH
import Derived.Test.YtkocigldchiifaaXI

/- What the reference answers is what the program answers: checks, distances, gaps, walks. -/
namespace Go.Proofs.Ytkocigldchiifaa.H
open Go.RowKit Go.Proofs.YtkocigldchiifaaW.PrintWords Go.Proofs.YtkocigldchiifaaW.PrintLast Go.Proofs.YtkocigldchiifaaW.PrintMore
open Go.Shelf Go.Proofs.Ytkocigldchiifaa.QA
set_option linter.unusedVariables false
set_option linter.unusedSimpArgs false

theorem is_f (x lo hi : Int) : pianolaref07_is.f x lo hi = some (isIn lo x hi) := by
 unfold pianolaref07_is.f pianolaref01_Is.f isIn
 by_cases h : x ≥ lo
 · rw [if_pos h]; simp; omega
 · rw [if_neg h]; simp; omega
theorem checked_l (l : List S59) (hl : l.length ≤ 30) : ∀ (n j k : Nat), l.length - j = n → j ≤ l.length → n + 1 ≤ k → pianolaref07_checked.l0 k (l.map ev) (j : Int) = some (if (l.drop j).any (fun x => !goodB x) = true then 3 else 0) := by
 intro n
 induction n with
 | zero =>
  intro j k h1 h2 h3
  obtain ⟨k, rfl⟩ : ∃ k', k = k' + 1 := ⟨k - 1, by omega⟩
  unfold pianolaref07_checked.l0
  rw [List.length_map, if_neg (by omega), List.drop_eq_nil_of_le (by omega)]
  rfl
 | succ n ih =>
  intro j k h1 h2 h3
  obtain ⟨k, rfl⟩ : ∃ k', k = k' + 1 := ⟨k - 1, by omega⟩
  unfold pianolaref07_checked.l0
  rw [List.length_map, if_pos (by omega), if_pos (by omega), rd_ev]
  have hlt : j < l.length := by omega
  have hd : l.drop j = rd_T59 l j :: l.drop (j + 1) := by
   rw [List.drop_eq_getElem_cons hlt]
   unfold rd_T59
   rw [Int.toNat_natCast, List.getD_eq_getElem?_getD, List.getElem?_eq_getElem hlt]
   rfl
  rw [hd, List.any_cons]
  have hw : wrap64 ((j : Int) + 1) = ((j + 1 : Nat) : Int) := wrap_up j (by omega)
  have hi := ih (j + 1) k (by omega) (by omega) (by omega)
  rw [hw, hi]
  simp only [is_f, Option.bind_some]
  show (if isIn 1 (rd_T59 l j).f0 88 = true then (if isIn 0 (rd_T59 l j).f1 1000 = true then (if isIn 0 (rd_T59 l j).f2 1000 = true then _ else _) else _) else _) = _
  unfold goodB
  cases isIn 1 (rd_T59 l j).f0 88 <;> cases isIn 0 (rd_T59 l j).f1 1000 <;> cases isIn 0 (rd_T59 l j).f2 1000 <;> simp
theorem checked_f (l : List S59) (k : Nat) (hk : 40 ≤ k) : pianolaref07_checked.f k (l.map ev) = some (chk l) := by
 unfold pianolaref07_checked.f chk
 rw [List.length_map]
 by_cases h0 : l.length = 0
 · rw [if_pos (by omega), if_pos h0]
 · rw [if_neg (by omega), if_neg h0]
   by_cases h1 : 30 < l.length
   · rw [if_pos (by omega), if_pos h1]
   · rw [if_neg (by omega), if_neg h1]
     exact checked_l l (by omega) l.length 0 k (by omega) (by omega) (by omega)
theorem refCheck_f (a b : List S59) (k : Nat) (hk : 40 ≤ k) : pianolaref07_Check.f k (a.map ev) (b.map ev) = align_Check.f a b := by
 unfold pianolaref07_Check.f align_Check.f
 rw [checked_f a k hk, checked_f b k hk]
 show (if chk a = 0 then _ else _) = _
 by_cases h : chk a = 0
 · rw [if_pos h, if_pos h]; rfl
 · rw [if_neg h, if_neg h]
theorem paired_f {a b : List S59} (hR : Rolls a b) (p q : Int) : pianolaref07_paired.f (a.map ev) (b.map ev) p q = some (hasP a b p q) := by
 have h0 := hR.ha
 have h1 := hR.hb
 unfold pianolaref07_paired.f hasP
 rw [is_f, is_f, List.length_map, List.length_map, w64' _ (by omega) (by omega), w64' _ (by omega) (by omega)]
 show (if isIn 0 p _ = true then some (isIn 0 q _) else some false) = _
 cases isIn 0 p ((a.length : Int) - 1) <;> simp
end Go.Proofs.Ytkocigldchiifaa.H

/- given and listed: lists turned into the reference's. -/
namespace Go.Proofs.Ytkocigldchiifaa.H
open Go.RowKit Go.Proofs.YtkocigldchiifaaW.PrintWords Go.Proofs.YtkocigldchiifaaW.PrintLast Go.Proofs.YtkocigldchiifaaW.PrintMore
open Go.Shelf Go.Proofs.Ytkocigldchiifaa.QA
set_option linter.unusedVariables false
set_option linter.unusedSimpArgs false

/-- A pair, as the reference has it. -/
def pr (q : S25) : S35 := ⟨q.f0, q.f1⟩
theorem info79 : (Try.prog.info? 79).map (fun i => (i.zero, i.size, i.bytes)) = some (some (.agg #[(.int .i64 0), (.int .i64 0), (.int .i64 0)]), 3, 24) := by kernel_rfl
theorem cellsP_append' (xs ys : List S25) : cellsP (xs ++ ys) = cellsP xs ++ cellsP ys := by simp [cellsP]
theorem cellsP_one' (xs : List S25) : ∀ u ∈ cellsP xs, u.oneCell' = true := by
 intro u hu
 obtain ⟨x, _, hx⟩ := List.mem_flatMap.1 hu
 simp only [List.mem_cons, List.not_mem_nil, or_false] at hx
 rcases hx with rfl | rfl <;> rfl

/-- An own row of the reference's. -/
def OwnR (W : World) (base : Nat) (v : Value) (xs : List S59) : Prop := W.ownsRow base 79 3 v xs.length (cellsE xs)
theorem OwnR_reps (w : World) (base : Nat) (ok : Nat → Prop) (xs : List S59) : Reps (k79.M w base ok) 3 (xs.map ev) (cellsE xs) := by
 have h : ∀ (ys zs : List S59), Reps (k79.M w base ok) 3 (ys.map ev) (cellsE ys) → Reps (k79.M w base ok) 3 ((ys ++ zs).map ev) (cellsE (ys ++ zs)) := fun ys zs => by
  induction zs generalizing ys with
  | nil => intro h; simpa using h
  | cons z zs ih =>
   intro h
   have := ih (ys ++ [z]) (by
    have h2 := h.snoc (p := ev z) (c := [.int .i64 z.f0, .int .i64 z.f1, .int .i64 z.f2]) (k79_mkM w base ok (ev z)) rfl
    simpa [cellsE] using h2)
   simpa using this
 simpa using h [] xs (Reps.none _ _)
theorem OwnR.R {W : World} {base : Nat} {v : Value} {xs : List S59} (h : OwnR W base v xs) : Kd.R k79 79 W base (fun _ => True) v (xs.map ev) := ⟨fun _ _ => trivial, cellsE xs, by rw [List.length_map]; exact h, OwnR_reps _ _ _ xs⟩
theorem OwnR.below {W W' : World} {base : Nat} {v : Value} {xs : List S59} (h : OwnR W base v xs) (hb : Below W.heap.size W W') : OwnR W' base v xs := by
 obtain ⟨h1, h2⟩ := h
 refine ⟨h1, ?_⟩
 rcases h2 with h2 | ⟨g, cap, cur, h3, h4, h5, h6⟩
 · exact .inl h2
 · exact .inr ⟨g, cap, cur, h3, h4, (hb.block g (Array.getElem?_eq_some_iff.1 h5).1).trans h5, h6⟩
theorem wpList_append_OwnR {ops : Array Oper} {rest : List Oper} {o : Oper} {a : Act} {Q : Exit → Act → World → Prop} {W : World} (hgd : o.guard = none) (s x : Operand)
  (ho : o.op = .call { callee := .builtin .append, args := #[s, x], argTypes := #[29, 29] }) (base : Nat) (v : Value) (xs ys : List S59) (hs : a.eval s = v) (hv : OwnR W base v xs) (ad : Addr) (m c : Nat) (hx : a.eval x = .slice (some ad) m c) (hm : m = ys.length)
  (hc : ∀ j u, (cellsE ys)[j]? = some u → W.cell? (ad.add j) = some u) (hl : xs.length + m ≤ 1000000) (hb : base ≤ W.heap.size)
  (h : ∀ v' w', OwnR w' base v' (xs ++ ys) → Below base W w' → W.grownBy w' v.ownBlock → wpList Try.prog ops Q rest (a.put o.dst v') w') : wpList Try.prog ops Q (o :: rest) a W := by
 obtain ⟨i0, hi, hz0, hz1, hz2⟩ := info_parts info79
 have hM : maxLen = 9223372036854775807 := rfl
 refine wpList_append_own_at _ hgd s x 29 ho base 79 i0 (.agg #[(.int .i64 0), (.int .i64 0), (.int .i64 0)]) 3 24 Try.underlying29 hi hz0 hz1 hz2 rfl (by decide) v xs.length (cellsE xs) hs hv ad m c (cellsE ys) hx (by rw [cellsE_len, hm]) hc (cellsE_one ys) (by omega) (by omega) hb ?_
 intro v' w' h1 h2 h3 h4
 refine h v' w' ?_ ((Below.refl _ _).grown h2 hb (fun j ej => own_base hv j ej)) h2
 unfold OwnR
 rw [cellsE_append, List.length_append, ← hm]
 exact h1
set_option maxRecDepth 100000 in
set_option maxHeartbeats 2000000 in
theorem pianolalaw07_given_calls (A0 : Option Addr) (c0 : Nat) (l : List S59) (w : World) (hr0 : Kd.C k59 w A0 l.length l) (hc0 : l.length ≤ c0) (hl : l.length ≤ 5000) :
  Calls Try.prog 16 #[.slice A0 l.length c0] w fun e w' => ∃ v : Value, e = .returned v ∧ Kd.R k79 79 w' w.heap.size (fun _ => True) v (l.map ev) ∧ Below w.heap.size w w' := by
 have hu59 := Try.underlying59
 have hu25 := Try.underlying25
 have HR := Aside0.mk hr0
 have HC := Aside0.mk hc0
 have HL := Aside0.mk hl
 clear hr0 hc0 hl
 go_enter Try.func16, Try.ntmps16
 go_wp2
 go_loopw [3, 4] (fun s0 s1 wr => ∃ i : Nat, i ≤ l.length ∧ s1 = .int .i64 i ∧ Aside0 (OwnR wr w.heap.size s0 (l.take i)) ∧ Aside0 (Below w.heap.size w wr)) (fun _ s1 _ => l.length - (intOf s1).toNat)
 case atStart => exact ⟨0, by omega, rfl, ⟨⟨rfl, .inl ⟨rfl, rfl⟩⟩⟩, ⟨Below.refl _ _⟩⟩
 case round =>
  obtain ⟨i, hi, rfl, HO, HB⟩ := hrel
  by_cases hlt : i < l.length
  · have hd : decide ((i : Int) < (l.length : Int)) = true := decide_eq_true (Int.ofNat_lt.2 hlt)
    obtain ⟨ad2, had, x0, x1, x2⟩ := at_T59 (Kd.C_below HR.out HB.out) (i : Int) (Int.natCast_nonneg i) (Int.ofNat_lt.2 hlt)
    cases had
    have hsn : l.take i ++ [rd_T59 l (i : Int)] = l.take (i + 1) := by
     rw [List.take_add_one]
     unfold rd_T59
     rw [Int.toNat_natCast, List.getD_eq_getElem?_getD, List.getElem?_eq_getElem hlt]
     rfl
    rw [Int.toNat_natCast] at x0 x1 x2
    generalize hp : rd_T59 l (i : Int) = p at x0 x1 x2 hsn
    have HS := Aside0.mk hsn
    have HJ := Aside0.mk hlt
    clear hp hsn
    go_wp2_with (at_builtin; refine Aside0.out ?_)
    refine ⟨?_⟩
    have hb3 := below_alloc (Below.refl wr.heap.size wr) (.cells #[.int .i64 p.f0, .int .i64 p.f1, .int .i64 p.f2] 79)
    refine wpList_append_OwnR rfl _ _ rfl w.heap.size _ (l.take i) [p] rfl (HO.out.below hb3) ⟨wr.heap.size, 0, none⟩ 1 1 rfl rfl (fun k u hu => by simpa using World.news_of_block (cs := #[.int .i64 p.f0, .int .i64 p.f1, .int .i64 p.f2]) (t := 79) (fr := (0, 0)) (heap_alloc_new wr (.cells #[.int .i64 p.f0, .int .i64 p.f1, .int .i64 p.f2] 79)) k u (by simpa [cellsE] using hu)) (by have := HJ.out; have := HL.out; rw [List.length_take]; omega) (Nat.le_trans HB.out.size hb3.size) ?_
    intro v4 w4 hO4 hb4 hg4
    go_wp2
    rw [HS.out] at hO4
    have hb5 : Below w.heap.size w w4 := (HB.out.trans (hb3.mono HB.out.size)).trans hb4
    clear hd
    rw [wrap_up i (by have := HL.out; omega)]
    refine ⟨⟨i + 1, hlt, rfl, ⟨hO4⟩, ⟨hb5⟩⟩, ?_⟩
    show l.length - (((i + 1 : Nat) : Int)).toNat < l.length - ((i : Int)).toNat
    omega
  · have hd : decide ((i : Int) < (l.length : Int)) = false := decide_eq_false (fun h => hlt (Int.ofNat_lt.1 h))
    obtain rfl : i = l.length := Nat.le_antisymm hi (Nat.le_of_not_lt hlt)
    have HOx := HO.out
    rw [List.take_length] at HOx
    have HO2 := Aside0.mk HOx
    clear HOx HO hlt
    go_wp2
    go_ret
    exact ⟨_, rfl, HO2.out.R, HB.out⟩

/-- An own row of the reference's. -/
def OwnQ (W : World) (base : Nat) (v : Value) (xs : List S25) : Prop := W.ownsRow base 35 2 v xs.length (cellsP xs)
theorem OwnQ_reps (w : World) (base : Nat) (ok : Nat → Prop) (xs : List S25) : Reps (k35.M w base ok) 2 (xs.map pr) (cellsP xs) := by
 have h : ∀ (ys zs : List S25), Reps (k35.M w base ok) 2 (ys.map pr) (cellsP ys) → Reps (k35.M w base ok) 2 ((ys ++ zs).map pr) (cellsP (ys ++ zs)) := fun ys zs => by
  induction zs generalizing ys with
  | nil => intro h; simpa using h
  | cons z zs ih =>
   intro h
   have := ih (ys ++ [z]) (by
    have h2 := h.snoc (p := pr z) (c := [.int .i64 z.f0, .int .i64 z.f1]) (k35_mkM w base ok (pr z)) rfl
    simpa [cellsP] using h2)
   simpa using this
 simpa using h [] xs (Reps.none _ _)
theorem OwnQ.R {W : World} {base : Nat} {v : Value} {xs : List S25} (h : OwnQ W base v xs) : Kd.R k35 35 W base (fun _ => True) v (xs.map pr) := ⟨fun _ _ => trivial, cellsP xs, by rw [List.length_map]; exact h, OwnQ_reps _ _ _ xs⟩
theorem OwnQ.below {W W' : World} {base : Nat} {v : Value} {xs : List S25} (h : OwnQ W base v xs) (hb : Below W.heap.size W W') : OwnQ W' base v xs := by
 obtain ⟨h1, h2⟩ := h
 refine ⟨h1, ?_⟩
 rcases h2 with h2 | ⟨g, cap, cur, h3, h4, h5, h6⟩
 · exact .inl h2
 · exact .inr ⟨g, cap, cur, h3, h4, (hb.block g (Array.getElem?_eq_some_iff.1 h5).1).trans h5, h6⟩
theorem wpList_append_OwnQ {ops : Array Oper} {rest : List Oper} {o : Oper} {a : Act} {Q : Exit → Act → World → Prop} {W : World} (hgd : o.guard = none) (s x : Operand)
  (ho : o.op = .call { callee := .builtin .append, args := #[s, x], argTypes := #[41, 41] }) (base : Nat) (v : Value) (xs ys : List S25) (hs : a.eval s = v) (hv : OwnQ W base v xs) (ad : Addr) (m c : Nat) (hx : a.eval x = .slice (some ad) m c) (hm : m = ys.length)
  (hc : ∀ j u, (cellsP ys)[j]? = some u → W.cell? (ad.add j) = some u) (hl : xs.length + m ≤ 1000000) (hb : base ≤ W.heap.size)
  (h : ∀ v' w', OwnQ w' base v' (xs ++ ys) → Below base W w' → W.grownBy w' v.ownBlock → wpList Try.prog ops Q rest (a.put o.dst v') w') : wpList Try.prog ops Q (o :: rest) a W := by
 obtain ⟨i0, hi, hz0, hz1, hz2⟩ := info_parts info35
 have hM : maxLen = 9223372036854775807 := rfl
 refine wpList_append_own_at _ hgd s x 41 ho base 35 i0 (.agg #[(.int .i64 0), (.int .i64 0)]) 2 16 Try.underlying41 hi hz0 hz1 hz2 rfl (by decide) v xs.length (cellsP xs) hs hv ad m c (cellsP ys) hx (by rw [cellsP_len, hm]) hc (cellsP_one' ys) (by omega) (by omega) hb ?_
 intro v' w' h1 h2 h3 h4
 refine h v' w' ?_ ((Below.refl _ _).grown h2 hb (fun j ej => own_base hv j ej)) h2
 unfold OwnQ
 rw [cellsP_append', List.length_append, ← hm]
 exact h1
set_option maxRecDepth 100000 in
set_option maxHeartbeats 2000000 in
theorem pianolalaw07_listed_calls (A0 : Option Addr) (c0 : Nat) (l : List S25) (w : World) (hr0 : Kd.C k25 w A0 l.length l) (hc0 : l.length ≤ c0) (hl : l.length ≤ 5000) :
  Calls Try.prog 29 #[.slice A0 l.length c0] w fun e w' => ∃ v : Value, e = .returned v ∧ Kd.R k35 35 w' w.heap.size (fun _ => True) v (l.map pr) ∧ Below w.heap.size w w' := by
 have hu59 := Try.underlying59
 have hu25 := Try.underlying25
 have HR := Aside0.mk hr0
 have HC := Aside0.mk hc0
 have HL := Aside0.mk hl
 clear hr0 hc0 hl
 go_enter Try.func29, Try.ntmps29
 go_wp2
 go_loopw [3, 4] (fun s0 s1 wr => ∃ i : Nat, i ≤ l.length ∧ s1 = .int .i64 i ∧ Aside0 (OwnQ wr w.heap.size s0 (l.take i)) ∧ Aside0 (Below w.heap.size w wr)) (fun _ s1 _ => l.length - (intOf s1).toNat)
 case atStart => exact ⟨0, by omega, rfl, ⟨⟨rfl, .inl ⟨rfl, rfl⟩⟩⟩, ⟨Below.refl _ _⟩⟩
 case round =>
  obtain ⟨i, hi, rfl, HO, HB⟩ := hrel
  by_cases hlt : i < l.length
  · have hd : decide ((i : Int) < (l.length : Int)) = true := decide_eq_true (Int.ofNat_lt.2 hlt)
    obtain ⟨ad2, had, x0, x1⟩ := at_T25 (Kd.C_below HR.out HB.out) (i : Int) (Int.natCast_nonneg i) (Int.ofNat_lt.2 hlt)
    cases had
    have hsn : l.take i ++ [rd_T25 l (i : Int)] = l.take (i + 1) := by
     rw [List.take_add_one]
     unfold rd_T25
     rw [Int.toNat_natCast, List.getD_eq_getElem?_getD, List.getElem?_eq_getElem hlt]
     rfl
    rw [Int.toNat_natCast] at x0 x1
    generalize hp : rd_T25 l (i : Int) = p at x0 x1 hsn
    have HS := Aside0.mk hsn
    have HJ := Aside0.mk hlt
    clear hp hsn
    go_wp2_with (at_builtin; refine Aside0.out ?_)
    refine ⟨?_⟩
    have hb3 := below_alloc (Below.refl wr.heap.size wr) (.cells #[.int .i64 p.f0, .int .i64 p.f1] 35)
    refine wpList_append_OwnQ rfl _ _ rfl w.heap.size _ (l.take i) [p] rfl (HO.out.below hb3) ⟨wr.heap.size, 0, none⟩ 1 1 rfl rfl (fun k u hu => by simpa using World.news_of_block (cs := #[.int .i64 p.f0, .int .i64 p.f1]) (t := 35) (fr := (0, 0)) (heap_alloc_new wr (.cells #[.int .i64 p.f0, .int .i64 p.f1] 35)) k u (by simpa [cellsP] using hu)) (by have := HJ.out; have := HL.out; rw [List.length_take]; omega) (Nat.le_trans HB.out.size hb3.size) ?_
    intro v4 w4 hO4 hb4 hg4
    go_wp2
    rw [HS.out] at hO4
    have hb5 : Below w.heap.size w w4 := (HB.out.trans (hb3.mono HB.out.size)).trans hb4
    clear hd
    rw [wrap_up i (by have := HL.out; omega)]
    refine ⟨⟨i + 1, hlt, rfl, ⟨hO4⟩, ⟨hb5⟩⟩, ?_⟩
    show l.length - (((i + 1 : Nat) : Int)).toNat < l.length - ((i : Int)).toNat
    omega
  · have hd : decide ((i : Int) < (l.length : Int)) = false := decide_eq_false (fun h => hlt (Int.ofNat_lt.1 h))
    obtain rfl : i = l.length := Nat.le_antisymm hi (Nat.le_of_not_lt hlt)
    have HOx := HO.out
    rw [List.take_length] at HOx
    have HO2 := Aside0.mk HOx
    clear HOx HO hlt
    go_wp2
    go_ret
    exact ⟨_, rfl, HO2.out.R, HB.out⟩

end Go.Proofs.Ytkocigldchiifaa.H

/- The reference's Verify answers as the program's does. -/
namespace Go.Proofs.Ytkocigldchiifaa.H
open Go.RowKit Go.Proofs.YtkocigldchiifaaW.PrintWords Go.Proofs.YtkocigldchiifaaW.PrintLast Go.Proofs.YtkocigldchiifaaW.PrintMore
open Go.Shelf Go.Proofs.Ytkocigldchiifaa.QA
set_option linter.unusedVariables false
set_option linter.unusedSimpArgs false

theorem rd_pr (l : List S25) (i : Int) : rd_T35 (l.map pr) i = pr (rd_T25 l i) := by
 unfold rd_T35 rd_T25
 rw [List.getD_eq_getElem?_getD, List.getElem?_map, List.getD_eq_getElem?_getD]
 cases l[i.toNat]? <;> rfl
section
variable {a b : List S59}
end
end Go.Proofs.Ytkocigldchiifaa.H

/- slices.Collect of the moves from a pair. -/
namespace Go.Proofs.Ytkocigldchiifaa.H
open Go.RowKit Go.Proofs.YtkocigldchiifaaW.PrintWords Go.Proofs.YtkocigldchiifaaW.PrintLast Go.Proofs.YtkocigldchiifaaW.PrintMore
open Go.Shelf Go.Proofs.Ytkocigldchiifaa.QA
attribute [local go_sem] Oper.semAt_some
set_option linter.unusedVariables false
set_option linter.unusedSimpArgs false

theorem cellsP_oneC (xs : List S25) : ∀ u ∈ cellsP xs, u.oneCell' = true := by
 intro u hu
 obtain ⟨x, _, hx⟩ := List.mem_flatMap.1 hu
 simp only [List.mem_cons, List.not_mem_nil, or_false] at hx
 rcases hx with rfl | rfl <;> rfl
/-- A slice that is boxed, and its row. -/
structure Cs (w W : World) (v : Value) (xs : List S25) : Prop where
 below : Below w.heap.size w W
 box : Boxed W w.heap.size 38 v
 row : W.ownsRow w.heap.size 25 2 v xs.length (cellsP xs)
section
variable {w W W' : World} {v : Value} {xs : List S25}
theorem own_keptP {base : Nat} (h : W.ownsRow base 25 2 v xs.length (cellsP xs)) (hk : ∀ (j : Nat) (cur : Array Value), v.ownBlock = some j → W.heap[j]? = some (.cells cur 25 (0, 0)) → W'.heap[j]? = some (.cells cur 25 (0, 0))) : W'.ownsRow base 25 2 v xs.length (cellsP xs) := by
 obtain ⟨h1, h2⟩ := h
 refine ⟨h1, ?_⟩
 rcases h2 with h2 | ⟨g, cap, cur, rfl, h4, h5, h6⟩
 · exact .inl h2
 · exact .inr ⟨g, cap, cur, rfl, h4, hk g cur rfl h5, h6⟩
theorem Cs.quiet (h : Cs w W v xs) (hb : Below W.heap.size W W') : Cs w W' v xs :=
 ⟨h.below.trans (hb.mono h.below.size), blk_below2 hb h.box, own_keptP h.row fun j cur _ hj => blk_below2 hb hj⟩
theorem Cs.lt (h : Cs w W v xs) : w.heap.size < W.heap.size := h.box.lt
theorem Cs.grown (h : Cs w W v xs) {row : Option Nat} (hg : W.grownBy W' row) (hr : ∀ r, row = some r → w.heap.size ≤ r ∧ ∃ o : Obj, W.heap[r]? = some o ∧ o.isCells = false) : Cs w W' v xs := by
 have hk : ∀ (j : Nat) (o : Obj), W.heap[j]? = some o → o.isCells = true → W'.heap[j]? = some o := fun j o ho hc => (hg.block j (blk_lt2 ho) (fun e => by
  obtain ⟨h1, o', h2, h3⟩ := hr j e.symm
  rw [ho] at h2
  cases h2
  rw [hc] at h3; cases h3)).trans ho
 exact ⟨h.below.grown hg h.below.size (fun k e => (hr k e).1), hk _ _ h.box rfl, own_keptP h.row fun j cur _ hj => hk _ _ hj rfl⟩
end
/-- Pairs appended, in a loop's body. -/
theorem wpListIn_append_at {F : Fence} {n : Nat} (w : World) {ops : Array Oper} {rest : List Oper} {o : Oper} {a : Act} {Q : Exit → Act → World → Prop}
  (hg : o.guard = none) (s x : Operand) (hop : o.op = Op.call { callee := Callee.builtin Builtin.append, args := #[s, x], argTypes := #[38, 38] })
  (base : Nat) (v : Value) (xs ys : List S25) (hs : a.eval s = v) (hown : w.ownsRow base 25 2 v xs.length (cellsP xs)) (ad : Addr) (m c : Nat) (hx : a.eval x = .slice (some ad) m c) (hm : m = ys.length)
  (hc : ∀ j u, (cellsP ys)[j]? = some u → w.cell? (ad.add j) = some u) (hl : xs.length + m ≤ 1000000) (hb : base ≤ w.heap.size)
  (hK : ∀ v' w', w'.ownsRow base 25 2 v' (xs ++ ys).length (cellsP (xs ++ ys)) → w.grownBy w' v.ownBlock → (v'.ownBlock = v.ownBlock ∨ v'.ownBlock = some w.heap.size) → wpListIn F n Try.prog ops Q rest (a.put o.dst v') w') :
  wpListIn F n Try.prog ops Q (o :: rest) a w := by
 obtain ⟨i0, hi, hz0, hz1, hz2⟩ := info_parts info25
 have hM : maxLen = 9223372036854775807 := rfl
 refine wpListIn_plain hg fun K hK' => ?_
 obtain ⟨v', w', hrun, r1, r2, _, r3⟩ := run_append_own_at (P := Try.prog) w base 38 o.type 25 i0 (.agg #[(.int .i64 0), (.int .i64 0)]) 2 16 Try.underlying38 hi hz0 hz1 hz2 rfl (by decide) v xs.length (cellsP xs) hown ad m c (cellsP ys) (by rw [cellsP_len, hm]) hc (cellsP_oneC ys) (by omega) (by omega) hb
 unfold Oper.wpIn
 refine ⟨?_, ?_⟩
 · simp [Oper.about, hop, resolve, Target.leads, Sem.run_pure]
 · rw [Oper.semAt_plain F _ _ (by rw [hop]; intro c hc'; cases hc')]
   simp [execOp, hop, resolve, invoke, builtin, hs, hx, hrun, Result.andThen]
   refine hK' _ _ (hK v' w' ?_ r2 r3)
   rw [List.length_append, ← hm, show cellsP (xs ++ ys) = cellsP xs ++ cellsP ys by simp [cellsP]]
   exact r1
theorem own_succ {W : World} {base : Nat} {v : Value} {xs : List S25} {x : S25} (h : W.ownsRow base 25 2 v (xs ++ [x]).length (cellsP (xs ++ [x]))) : ∃ g cap, v = .slice (some ⟨g, 0, none⟩) (xs ++ [x]).length cap := by
 rcases h.2 with ⟨_, h0⟩ | ⟨g, cap, _, rfl, _⟩
 · simp at h0
 · exact ⟨g, cap, rfl⟩
theorem repsP (w : World) (base : Nat) (ok : Nat → Prop) (xs : List S25) : Reps (k25.M w base ok) 2 xs (cellsP xs) := by
 have h : ∀ (ys zs : List S25), Reps (k25.M w base ok) 2 ys (cellsP ys) → Reps (k25.M w base ok) 2 (ys ++ zs) (cellsP (ys ++ zs)) := fun ys zs => by
  induction zs generalizing ys with
  | nil => intro h; simpa using h
  | cons z zs ih =>
   intro h
   have := ih (ys ++ [z]) (by
    have h2 := h.snoc (p := z) (c := [.int .i64 z.f0, .int .i64 z.f1]) (k25_mkM w base ok z) rfl
    simpa [cellsP] using h2)
   simpa using this
 simpa using h [] xs (Reps.none _ _)
set_option maxHeartbeats 4000000 in
set_option maxRecDepth 100000 in
/-- slices.AppendSeq(nil, moves). -/
theorem appendSeq_calls (g Bp Bt : Nat) (a b : List S59) (i k : Int) (w : World) (hp0 : w.cell? ⟨Bp, 0, none⟩ = some (.int .i64 i)) (hp1 : w.cell? ⟨Bp, 1, none⟩ = some (.int .i64 k)) (htb : w.heap[Bt]? = some (.cells #[.pointer (some ⟨g, 0, none⟩)] 80 (0, 0)))
  (hT : Tb w g a b) (hi : 0 ≤ i ∧ i ≤ 1000) (hk : 0 ≤ k ∧ k ≤ 1000) :
  Calls Try.prog 79 #[.slice none 0 0, .func (.func 72) #[] #[.pointer (some ⟨Bp, 0, none⟩), .pointer (some ⟨Bt, 0, none⟩)]] w fun e w' => ∃ v, e = .returned v ∧ w'.ownsRow w.heap.size 25 2 v (movesOf a b i k).length (cellsP (movesOf a b i k)) ∧ Below w.heap.size w w' := by
 have hu25 := Try.underlying25
 obtain ⟨i0, hi25, hz0, hz1, hz2⟩ := info_parts info25
 refine calls_of_wp_marks Try.func79 rfl ?_
 simp only [Try.ntmps79, List.size_toArray, List.length_cons, List.length_nil, Nat.reduceAdd, Nat.reduceSub, Array.replicate_succ, Array.replicate_zero, List.push_toArray, List.append_toArray, List.nil_append, List.cons_append]
 go_wp2_with fail
 have hb0 := below_alloc (Below.refl w.heap.size w) (.cells #[.slice none 0 0] 38)
 have hS : Cs w (w.alloc (.cells #[.slice none 0 0] 38)) (.slice none 0 0) [] := ⟨hb0, blk_new w _, ⟨rfl, .inl ⟨rfl, rfl⟩⟩⟩
 have hltp : Bp < w.heap.size := by have := World.block_lt_of_cell? _ _ hp0; exact this
 have hltt : Bt < w.heap.size := blk_lt2 htb
 have q0 := (hb0.cell (p := ⟨Bp, 0, none⟩) hltp).trans hp0
 have q1 := (hb0.cell (p := ⟨Bp, 1, none⟩) hltp).trans hp1
 have qt := blk_below2 hb0 htb
 have hT1 := hT.below hb0
 have hsl : (w.alloc (.cells #[.slice none 0 0] 38)).heap.size = w.heap.size + 1 := by simp
 generalize w.alloc (.cells #[.slice none 0 0] 38) = wl at hS q0 q1 qt hT1 hsl ⊢
 have HS := Aside0.mk hS
 have HT := Aside0.mk hT
 clear hb0 hp0 hp1 htb
 refine (wpIn_wide (n := 3)).1 ?_
 refine wpIn_rangeFunc_ownH rfl (by omega) (gf := 72) (lb := #[.pointer (some ⟨Bp, 0, none⟩), .pointer (some ⟨Bt, 0, none⟩)]) rfl trivial (enters_of Try.func72 (by kernel_rfl) rfl)
  (moves_stops _ (by omega) Bp Bt w.heap.size g w.heap.size a b i k wl q0 q1 qt (fun W' hb => HT.out.below (HS.out.below.trans hb)) (by omega) (by omega) ((ptr_boxed HS.out.box).trans rfl) hi hk) KpM.trans' (KpM.putObj (by omega) (by omega)) (Below.refl _ _) (fun _ => rfl)
  (fun pre W => ∃ v : Value, Cs w W v (pre.map (·.1)))
  (fun _ _ _ => False)
  (fun pre X Y row hs hg hr => by
   obtain ⟨v, h1⟩ := hs
   exact ⟨v, h1.grown hg (fun r e => by obtain ⟨h3, h4⟩ := hr r e; exact ⟨by omega, h4⟩)⟩)
  (fun _ _ _ _ _ hs _ _ => hs)
  ⟨.slice none 0 0, HS.out⟩
  (fun x a' W => ∃ (u : Nat → Value) (Bq : Nat), a' = { tmps := #[u 0, u 1, .pointer (some ⟨w.heap.size, 0, none⟩), u 3, u 4, .pointer (some ⟨Bq, 0, none⟩), u 6, u 7, u 8, u 9, u 10, u 11, u 12], defers := [] } ∧ W.heap[Bq]? = some (.cells #[.int .i64 x.1.f0, .int .i64 x.1.f1] 25 (0, 0)))
  (fun x a' _ X Y row hs hg hr => by
   obtain ⟨u, Bq, h1, h2⟩ := hs
   exact ⟨u, Bq, h1, (hg.block Bq (blk_lt2 h2) (fun e => by obtain ⟨_, o, ho, hc⟩ := hr Bq e.symm; rw [h2] at ho; cases ho; cases hc)).trans h2⟩) ?assign ?body ?done ?stop
 case stop =>
  rintro D c pre W _ _ h _
  exact h.elim
 case assign =>
  intro l pre x W K hI hK
  gi_wp2
  obtain ⟨v, h1⟩ := hI
  have hb := below_alloc (Below.refl W.heap.size W) (Obj.cells #[Value.int IntKind.i64 x.1.f0, Value.int IntKind.i64 x.1.f1] 25)
  refine hK _ _ ⟨hb.size, fun k o _ hk _ => blk_below2 hb hk⟩ (KpM.quiet hb (by have := h1.lt; omega) h1.lt) ⟨v, h1.quiet hb⟩ ⟨fun k => ([_, _, undef, _, _, undef, _, _, _, _, _, _, _] : List Value).getD k undef, _, rfl, blk_new _ _⟩
 case body =>
  rintro l pre x a' W hl _ hI ⟨u, Bq, rfl, hq⟩ hlt
  obtain ⟨v, hC⟩ := hI
  have c2 := hC.box.cell
  have c50 : W.cell? ⟨Bq, 0, none⟩ = some (.int .i64 x.1.f0) := (blk_cell hq 0).trans rfl
  have c51 : W.cell? ⟨Bq, 1, none⟩ = some (.int .i64 x.1.f1) := (blk_cell hq 1).trans rfl
  have hb := below_alloc (Below.refl W.heap.size W) (Obj.cells #[Value.int IntKind.i64 x.1.f0, Value.int IntKind.i64 x.1.f1] 25)
  have hC2 := hC.quiet hb
  have HC := Aside0.mk hC
  have HL := Aside0.mk hlt
  clear hC hq
  gi_wp2_with (gi_at_builtin; refine Aside0.out ?_)
  refine ⟨?_⟩
  refine wpListIn_append_at _ rfl _ _ rfl w.heap.size v (pre.map (·.1)) [x.1] rfl hC2.row ⟨W.heap.size, 0, none⟩ 1 1 rfl rfl (fun j u hu => by simpa using World.news_of_block (cs := #[Value.int IntKind.i64 x.1.f0, Value.int IntKind.i64 x.1.f1]) (t := 25) (fr := (0, 0)) (heap_alloc_new W (Obj.cells #[Value.int IntKind.i64 x.1.f0, Value.int IntKind.i64 x.1.f1] 25)) j u (by simpa [cellsP] using hu)) (by have := HL.out; rw [List.length_map]; omega) (by have := hC2.lt; omega) ?_
  intro v' w' r1 r2 r3
  obtain ⟨g', cap', rfl⟩ := own_succ r1
  obtain ⟨L, hL⟩ : ∃ L, (pre.map (·.1) ++ [x.1]).length = L := ⟨_, rfl⟩
  rw [hL] at r1 r3 ⊢
  have HLL := Aside0.mk hL
  clear hL
  obtain ⟨b1, b2, b3, b4, b5⟩ := Boxed.appended HC.out.box (by decide) HC.out.row HC.out.below.size (Nat.le_refl _) r1 r2
  have d1 := b1.cell
  have d2 := b1.frozen
  have HBB := Aside0.mk (And.intro b2 (And.intro b3 (And.intro b4 b5)))
  have HR := Aside0.mk (And.intro r2 r3)
  clear b1 b2 b3 b4 b5 r1 r2 r3 hC2 hb
  have hpt : ∀ y : Nat, ptrAt W w.heap.size = some y ↔ v.ownBlock = some y := fun y => by rw [ptr_boxed HC.out.box]
  gi_wp2
  have hpre : (pre ++ [x]).map (·.1) = pre.map (·.1) ++ [x.1] := by simp
  refine ⟨HBB.out.2.2.1.from _, ⟨HBB.out.2.2.2, fun cs t fz hg => (HBB.out.2.2.2.block Bt hltt).trans hg, fun y cs hg hp => ?_, fun y hy => ?_⟩, _, ⟨HC.out.below.trans HBB.out.2.2.2, HBB.out.1, by rw [hpre, HLL.out]; exact HBB.out.2.1⟩⟩
  · have hne : y ≠ w.heap.size := fun e => by
     subst e
     have := HC.out.box.symm.trans hg
     cases this
    refine (Below.heap_setCell _ _ _ _ hne).trans ((HR.out.1.block y (by have := blk_lt2 hg; simp; omega) (fun e => hp ((hpt y).2 e.symm))).trans ((Below.heap_alloc W _ y (blk_lt2 hg)).trans hg))
  · rw [ptr_boxed HBB.out.1] at hy
    rcases HR.out.2 with h | h
    · exact .inl ((hpt y).2 (h.symm.trans hy))
    · refine .inr ?_
      have := Option.some.inj (h.symm.trans hy)
      simp at this
      omega
 case done =>
  rintro D ys W hD hys hI hDf
  obtain ⟨v, hC⟩ := hI
  have c2 := hC.box.cell
  rw [hys] at hC
  have HC := Aside0.mk hC
  have HD := Aside0.mk hDf
  clear hC
  dsimp only
  go_wp2
  refine leaves_marks (n₀ := w.heap.size) [{ target := .collected D, args := #[] }] W ⟨⟨D, rfl, by omega, HD.out, fun d' hd => by cases hd⟩, trivial⟩ (fun W' hb hk => ⟨_, results_tmp rfl _ _ _, _, rfl, own_keptP HC.out.row (fun j cur _ hj => hk _ _ hj (fun c e => by cases e)), HC.out.below.trans hb⟩)
/-- slices.Collect(moves). -/
theorem collect_calls (g Bp Bt : Nat) (a b : List S59) (i k : Int) (w : World) (hp0 : w.cell? ⟨Bp, 0, none⟩ = some (.int .i64 i)) (hp1 : w.cell? ⟨Bp, 1, none⟩ = some (.int .i64 k)) (htb : w.heap[Bt]? = some (.cells #[.pointer (some ⟨g, 0, none⟩)] 80 (0, 0)))
  (hT : Tb w g a b) (hi : 0 ≤ i ∧ i ≤ 1000) (hk : 0 ≤ k ∧ k ≤ 1000) :
  Calls Try.prog 67 #[.func (.func 72) #[] #[.pointer (some ⟨Bp, 0, none⟩), .pointer (some ⟨Bt, 0, none⟩)]] w fun e w' => ∃ A c, e = .returned (.slice A (movesOf a b i k).length c) ∧ (movesOf a b i k).length ≤ c ∧ Kd.C k25 w' A (movesOf a b i k).length (movesOf a b i k) ∧ Below w.heap.size w w' := by
 have HP := Aside0.mk (And.intro hp0 (And.intro hp1 (And.intro htb hT)))
 clear hp0 hp1 htb hT
 go_enter Try.func67, Try.ntmps67
 go_wp2_with fail
 refine (appendSeq_calls g Bp Bt a b i k _ HP.out.1 HP.out.2.1 HP.out.2.2.1 HP.out.2.2.2 hi hk).mono ?_
 rintro e w1 ⟨v, rfl, hO, hb⟩
 have hR : Kd.R k25 25 w1 w.heap.size (fun _ => True) v (movesOf a b i k) := ⟨fun _ _ => trivial, cellsP (movesOf a b i k), hO, repsP _ _ _ _⟩
 obtain ⟨A, c, rfl, hc, hC⟩ := Kd.R_reads hR
 have HC := Aside0.mk (And.intro hc (And.intro hC hb))
 clear hO hR hc hC hb
 go_wp2
 go_ret
 exact ⟨A, c, rfl, HC.out⟩

end Go.Proofs.Ytkocigldchiifaa.H

/- align.Height. -/
namespace Go.Proofs.Ytkocigldchiifaa.H
open Go.RowKit Go.Proofs.YtkocigldchiifaaW.PrintWords Go.Proofs.YtkocigldchiifaaW.PrintLast Go.Proofs.YtkocigldchiifaaW.PrintMore
open Go.Shelf Go.Proofs.Ytkocigldchiifaa.QA
attribute [local go_sem] Oper.semAt_some
attribute [local go_sem high] eqA25
set_option linter.unusedVariables false
set_option linter.unusedSimpArgs false



def hgt14_T : Bool × List (List Nat × List Nat) := (true, [([], []), ([0], [0]), ([1], [1]), ([2], [2]), ([2], [2]), ([2], [2]), ([5, 2], [2, 5]), ([4, 6, 2], [2, 4, 6]), ([7, 2], [2, 7]), ([3, 8, 2, 2], [2, 3, 8]), ([9, 9, 2], [2, 9]), ([2], [2]), ([10, 11, 10, 2], [2, 10, 11]), ([12, 2], [2, 12]), ([2, 13], [2, 13]), ([14, 12], [14])])
def hgt14_B : List Nat := [0, 1, 3, 7, 7, 7, 39, 119, 247, 511, 1023, 7, 4095, 8191, 16383, 32767]
theorem hgt14_tab : rtab .any (opsOf Try.f35 14) = hgt14_T := by kernel_rfl
theorem hgt14_bits : waitsOk hgt14_T.2 hgt14_B = true := by kernel_rfl
def hgt18_T : Bool × List (List Nat × List Nat) := (true, [([], []), ([], []), ([1], [1]), ([2], [2]), ([0, 3], [0, 3]), ([4], [4]), ([], []), ([6], [6]), ([7], [7]), ([8], [8]), ([5, 9], [5, 9])])
def hgt18_B : List Nat := [0, 0, 2, 6, 15, 31, 0, 64, 192, 448, 1023]
theorem hgt18_tab : rtab .any (opsOf Try.f35 18) = hgt18_T := by kernel_rfl
theorem hgt18_bits : waitsOk hgt18_T.2 hgt18_B = true := by kernel_rfl

theorem max2_mxH (k k' : IntKind) (x y : Int) : Builtin.max2 (.int k x) (.int k' y) = pure (.int k (mx x y)) := max2_int k k' x y
/-- A move. -/
def stepB (q p : S25) : Bool := isIn 0 (p.f0 - q.f0) 1 && (isIn 0 (p.f1 - q.f1) 1 && !(p.f0 - q.f0 + (p.f1 - q.f1) == 0))
/-- What is wrong at a pair of a list: 0 if nothing is. -/
def htAt (a b : List S59) (l : List S25) (i : Nat) : Int :=
 if hasP a b (rd_T25 l i).f0 (rd_T25 l i).f1 = false then 8 else if i = 0 then (if (rd_T25 l i).f0 = 0 ∧ (rd_T25 l i).f1 = 0 then 0 else 7) else if stepB (rd_T25 l ((i - 1 : Nat) : Int)) (rd_T25 l i) = false then 7 else 0
def htFrom (a b : List S59) (l : List S25) : Nat → Nat → Int → Int × Int
 | 0, _, ht => if (rd_T25 l ((l.length - 1 : Nat) : Int)).f0 = (a.length : Int) - 1 ∧ (rd_T25 l ((l.length - 1 : Nat) : Int)).f1 = (b.length : Int) - 1 then (ht, 0) else (0, 13)
 | n + 1, i, ht => if htAt a b l i = 0 then htFrom a b l n (i + 1) (mx ht (farD (rd_T59 a (rd_T25 l i).f0) (rd_T59 b (rd_T25 l i).f1))) else (0, htAt a b l i)
def htF (a b : List S59) (l : List S25) : Int × Int := if l.length = 0 then (0, 4) else htFrom a b l l.length 0 0
def align_Height.f (l0 l1 : List S59) (l2 : List S25) : Option (Int × Int) := (align_Check.f l0 l1).bind fun e => some (if e = 0 then htF l0 l1 l2 else (0, e))
theorem contains_f {a b : List S59} (q p : S25) (hq : hasP a b q.f0 q.f1 = true) (hp : hasP a b p.f0 p.f1 = true) : align_Pair_66.f 10 (movesOf a b q.f0 q.f1) p.f0 p.f1 = some (stepB q p) := by
 obtain ⟨q1, q2⟩ := (hasP_iff a b _ _).1 hq
 obtain ⟨p1, p2⟩ := (hasP_iff a b _ _).1 hp
 obtain ⟨q0, qb⟩ := q
 obtain ⟨p0, pb⟩ := p
 dsimp only at q1 q2 p1 p2 ⊢
 have hw : ∀ i : Nat, i ≤ 10 → wrap64 ((i : Int) + 1) = ((i + 1 : Nat) : Int) := fun i hi => by rw [w64' _ (by omega) (by omega)]; rfl
 have hgo : ∀ (l : List S25) (n j k : Nat), l.length - j = n → l.length ≤ 3 → j ≤ l.length → n + 1 ≤ k → (align_Pair_78.l0 k l (l.length : Int) (j : Int) p0 pb).bind (fun t => some (decide (t ≥ 0))) = some ((l.drop j).any fun x => p0 == x.f0 && pb == x.f1) := fun l n => by
  induction n with
  | zero =>
   intro j k h1 h2 h3 h4
   obtain ⟨k, rfl⟩ : ∃ k', k = k' + 1 := ⟨k - 1, by omega⟩
   rw [align_Pair_78.l0, if_neg (by omega), List.drop_eq_nil_of_le (by omega)]
   rfl
  | succ n ih =>
   intro j k h1 h2 h3 h4
   obtain ⟨k, rfl⟩ : ∃ k', k = k' + 1 := ⟨k - 1, by omega⟩
   have hj : j < l.length := by omega
   have hd : l.drop j = rd_T25 l j :: l.drop (j + 1) := by
    rw [List.drop_eq_getElem_cons hj]
    unfold rd_T25
    rw [Int.toNat_natCast, List.getD_eq_getElem?_getD, List.getElem?_eq_getElem hj]
    rfl
   rw [align_Pair_78.l0, if_pos (by omega), if_pos (by omega), if_pos (by omega), hd, List.any_cons, hw j (by omega)]
   by_cases c : (p0 == (rd_T25 l j).f0 && (pb == (rd_T25 l j).f1)) = true
   · rw [if_pos c, c]
     simp
   · rw [if_neg c]
     have c' : (p0 == (rd_T25 l j).f0 && (pb == (rd_T25 l j).f1)) = false := by simpa using c
     rw [c', ih (j + 1) k (by omega) h2 (by omega) (by omega)]
     simp
 have hlen : (movesOf a b q0 qb).length ≤ 3 := (moves_len a b q0 qb 3).1
 unfold align_Pair_66.f align_Pair_78.f
 refine (hgo (movesOf a b q0 qb) _ 0 10 rfl hlen (Nat.zero_le _) (by omega)).trans ?_
 congr 1
 rw [List.drop_zero, Bool.eq_iff_iff, List.any_eq_true]
 unfold stepB isIn
 constructor
 · rintro ⟨x, hx, hxe⟩
   have := (moves_mem hx).2
   simp only [Bool.and_eq_true, beq_iff_eq] at hxe
   rcases this with rfl | rfl | rfl <;> (simp only at hxe; simp; omega)
 · intro hs
   simp only [Bool.and_eq_true, decide_eq_true_eq, Bool.not_eq_true', beq_eq_false_iff_ne] at hs
   refine ⟨⟨p0, pb⟩, ?_, by simp⟩
   rw [moves_eq a b q0 qb q1 q2]
   have h3 : (p0 = q0 + 1 ∧ pb = qb + 1) ∨ (p0 = q0 + 1 ∧ pb = qb) ∨ (p0 = q0 ∧ pb = qb + 1) := by omega
   rcases h3 with ⟨rfl, rfl⟩ | ⟨rfl, rfl⟩ | ⟨rfl, rfl⟩
   · rw [if_pos (by omega)]; simp
   · simp only [List.mem_append]
     refine .inr (.inl ?_)
     rw [if_pos (by omega)]; simp
   · simp only [List.mem_append]
     refine .inr (.inr ?_)
     rw [if_pos (by omega)]; simp
/-- What holds at the head of the loop. -/
structure Hs (a b : List S59) (l : List S25) (i : Nat) (ht : Int) (w wr : World) : Prop where
 below : Below w.heap.size w wr
 eq : htFrom a b l l.length 0 0 = htFrom a b l (l.length - i) i ht
 has : ∀ j : Nat, j < i → hasP a b (rd_T25 l j).f0 (rd_T25 l j).f1 = true
theorem Hs.err {a b : List S59} {l : List S25} {i : Nat} {ht : Int} {w wr : World} (hs : Hs a b l i ht w wr) (hlt : i < l.length) {x : Int} (hx : htAt a b l i = x) (hne : x ≠ 0) : htFrom a b l l.length 0 0 = (0, x) := by
 rw [hs.eq, show l.length - i = (l.length - (i + 1)) + 1 by omega, htFrom, hx, if_neg hne]
theorem Hs.next {a b : List S59} {l : List S25} {i : Nat} {ht : Int} {w wr w' : World} (hs : Hs a b l i ht w wr) (hlt : i < l.length) (hx : htAt a b l i = 0) (hp : hasP a b (rd_T25 l i).f0 (rd_T25 l i).f1 = true) (hb : Below wr.heap.size wr w') : Hs a b l (i + 1) (mx ht (farD (rd_T59 a (rd_T25 l i).f0) (rd_T59 b (rd_T25 l i).f1))) w w' := by
 refine ⟨hs.below.trans (hb.mono hs.below.size), ?_, fun j hj => ?_⟩
 · rw [hs.eq, show l.length - i = (l.length - (i + 1)) + 1 by omega, htFrom, hx, if_pos rfl]
 · by_cases h1 : j = i
   · rw [h1]; exact hp
   · exact hs.has j (by omega)
section
attribute [local go_sem] max2_mxH max_two
set_option maxRecDepth 100000 in
set_option maxHeartbeats 4000000 in
theorem align_Height.calls (A0 : Option Addr) (c0 : Nat) (l0 : List S59) (A1 : Option Addr) (c1 : Nat) (l1 : List S59) (A3 : Option Addr) (c3 : Nat) (l3 : List S25) (r1 r2 : Int) (w : World) (hr0 : Kd.C k59 w A0 l0.length l0) (hc0 : l0.length ≤ c0) (hr1 : Kd.C k59 w A1 l1.length l1) (hc1 : l1.length ≤ c1) (hr3 : Kd.C k25 w A3 l3.length l3) (hc3 : l3.length ≤ c3) (hl : l3.length ≤ 1000000) (h : align_Height.f l0 l1 l3 = some (r1, r2)) :
  Calls Try.prog 35 #[.slice A0 l0.length c0, .slice A1 l1.length c1, .slice A3 l3.length c3] w fun e w' => e = .returned (.tuple #[.int .i64 r1, .int .i64 r2]) ∧ Below w.heap.size w w' := by
 have hu25 := Try.underlying25
 unfold align_Height.f at h
 obtain ⟨e, he, h⟩ := Option.bind_eq_some_iff.1 h
 have HR0 := Aside0.mk hr0
 have HR1 := Aside0.mk hr1
 have HR3 := Aside0.mk hr3
 have HE := Aside0.mk he
 have HC := Aside0.mk (And.intro hc0 (And.intro hc1 hc3))
 have HL := Aside0.mk hl
 have h1 := Option.some.inj h
 clear h he hr0 hr1 hr3 hc0 hc1 hc3 hl
 by_cases h0 : e = 0
 · subst h0
   rw [if_pos rfl] at h1
   have HO := Aside0.mk (rolls_of HE.out)
   by_cases hn : l3.length = 0
   · unfold htF at h1
     rw [if_pos hn] at h1
     obtain ⟨rfl, rfl⟩ := Prod.mk.inj h1
     rw [hn]
     go_enter Try.func35, Try.ntmps35
     go_wp2_with fail
     refine (newTable_ok A0 c0 l0 A1 c1 l1 _ HR0.out HC.out.1 HR1.out HC.out.2.1 HE.out).mono ?_
     rintro e w1 ⟨g, rfl, hT, _, hb⟩
     have HB := Aside0.mk hb
     clear hT hb hn
     go_wp2
     go_ret2
     exact ⟨rfl, HB.out⟩
   · have hnb : ((l3.length : Int) == 0) = false := beq_eq_false_iff_ne.mpr (by omega)
     have hnp : 0 < l3.length := Nat.pos_of_ne_zero hn
     unfold htF at h1
     rw [if_neg hn] at h1
     have HV := Aside0.mk h1
     clear h1
     go_enter Try.func35, Try.ntmps35
     go_wp2_with fail
     refine (newTable_ok A0 c0 l0 A1 c1 l1 _ HR0.out HC.out.1 HR1.out HC.out.2.1 HE.out).mono ?_
     rintro e w1 ⟨g, rfl, hT, _, hb⟩
     have HT := Aside0.mk hT
     have HB := Aside0.mk hb
     clear hT hb
     go_wp2
     go_loopw [10, 29] (fun s10 s29 wr => ∃ (i : Nat) (ht : Int), i ≤ l3.length ∧ s10 = .int .i64 ht ∧ s29 = .int .i64 i ∧ Aside0 (Hs l0 l1 l3 i ht w1 wr)) (fun _ s29 _ => l3.length - (intOf s29).toNat)
     case atStart => exact ⟨0, 0, by omega, rfl, rfl, ⟨Below.refl _ _, by simp, fun j hj => absurd hj (Nat.not_lt_zero j)⟩⟩
     case round =>
      obtain ⟨i, ht, hi, rfl, rfl, HS⟩ := hrel
      have HTW := Aside0.mk (HT.out.below HS.out.below)
      by_cases hlt : i < l3.length
      · have hdec : decide ((i : Int) < (l3.length : Int)) = true := decide_eq_true (by omega)
        have hC := Kd.C_below (Kd.C_below HR3.out HB.out) (HS.out.below)
        obtain ⟨ad, rfl, x0, x1⟩ := at_T25 hC i (by omega) (by omega)
        have HCC := Aside0.mk hC
        clear hC
        obtain ⟨p, hp⟩ : ∃ p, rd_T25 l3 i = p := ⟨_, rfl⟩
        rw [hp, Int.toNat_natCast] at x0 x1
        have HP := Aside0.mk hp
        have hbb := below_alloc (Below.refl wr.heap.size wr) (.cells #[.int .i64 p.f0, .int .i64 p.f1] 25)
        have hbn := blk_new wr (.cells #[.int .i64 p.f0, .int .i64 p.f1] 25)
        have HBB := Aside0.mk (And.intro hbb hbn)
        have hcall := has_calls g l0 l1 p.f0 p.f1 _ (HTW.out.below hbb)
        generalize hz : hasP l0 l1 p.f0 p.f1 = z at hcall
        have HCALL := Aside0.mk hcall
        have HZ := Aside0.mk hz
        clear hp hbb hbn hcall hz
        cases z with
        | false =>
         go_wp2_with (go_at_call 46; refine HCALL.out.mono ?_; rintro e w2 ⟨rfl, hb2⟩; have HB2 := Aside0.mk hb2; clear hb2)
         go_ret2
         have h8 : htAt l0 l1 l3 i = 8 := by unfold htAt; rw [HP.out, if_pos HZ.out]
         have hv := HV.out
         rw [HS.out.err hlt h8 (by decide)] at hv
         obtain ⟨rfl, rfl⟩ := Prod.mk.inj hv
         exact ⟨rfl, HB.out.trans ((HS.out.below.trans ((below_then HBB.out.1 HBB.out.1.size HB2.out).mono HS.out.below.size)).mono HB.out.size)⟩
        | true =>
         have hb13 := HBB.out.1
         by_cases hi0 : 0 < i
         · have hgt : decide ((i : Int) > 0) = true := decide_eq_true (by omega)
           have hgt2 : decide ((0 : Int) < i) = true := decide_eq_true (by omega)
           have hz1 : ¬ ((i : Int) = 0) := by omega
           have hz2 : ((i : Int) == 0) = false := beq_false_of_ne hz1
           obtain ⟨j, hj⟩ : ∃ j, j = i - 1 := ⟨_, rfl⟩
           have e1 : wrap64 ((i : Int) - 1) = (j : Int) := by rw [w64' _ (by omega) (by have := HL.out; omega)]; omega
           have e2 : j < l3.length := by omega
           obtain ⟨ad2, had, y0, y1⟩ := at_T25 HCC.out (j : Int) (by omega) (by omega)
           cases had
           obtain ⟨q, hq⟩ : ∃ q, rd_T25 l3 (j : Int) = q := ⟨_, rfl⟩
           have hqh : hasP l0 l1 q.f0 q.f1 = true := by rw [← hq]; exact HS.out.has j (by omega)
           have hqi := (hasP_iff l0 l1 _ _).1 hqh
           have HQI := Aside0.mk (show (0 ≤ q.f0 ∧ q.f0 ≤ 1000) ∧ (0 ≤ q.f1 ∧ q.f1 ≤ 1000) from ⟨⟨by omega, by have := HO.out.ha; omega⟩, ⟨by omega, by have := HO.out.hb; omega⟩⟩)
           rw [hq, Int.toNat_natCast] at y0 y1
           have HY := Aside0.mk (And.intro y0 y1)
           have HQ := Aside0.mk (And.intro hq hj)
           obtain ⟨mv, hmv⟩ : ∃ m, movesOf l0 l1 q.f0 q.f1 = m := ⟨_, rfl⟩
           have hcn := contains_f q p hqh HZ.out
           rw [hmv] at hcn
           have HMM := Aside0.mk hmv
           generalize hz3 : stepB q p = z2 at hcn
           have HZ2 := Aside0.mk hcn
           have HZ3 := Aside0.mk hz3
           clear hz3 hcn hmv hq hqh hqi y0 y1 hj
           go_wp2_with (go_at_call 46; refine HCALL.out.mono ?_; rintro e w2 ⟨rfl, hb2⟩; have HX2 := Aside0.mk (blk_below HBB.out.2 hb2); have HW2 := Aside0.mk (below_then HBB.out.1 HBB.out.1.size hb2); clear hb2)
           have hwd : Below wr.heap.size wr w2.drew := below_then HW2.out HW2.out.size (pw_below_drewN (Below.refl _ _) 1)
           have KK := Aside0.mk (And.intro (show w2.drew.cell? ⟨wr.heap.size, 0, none⟩ = some (.int .i64 p.f0) from (blk_cell HX2.out 0).trans rfl) (And.intro (show w2.drew.cell? ⟨wr.heap.size, 1, none⟩ = some (.int .i64 p.f1) from (blk_cell HX2.out 1).trans rfl) (And.intro (pw_cell_below hwd HY.out.1) (pw_cell_below hwd HY.out.2))))
           have HWD := Aside0.mk hwd
           have HTA := Aside0.mk (HTW.out.below hwd)
           clear hwd x0 x1
           refine start_ (n := 16) (S := fun w' => w'.cell? ⟨wr.heap.size, 0, none⟩ = some (.int .i64 p.f0) ∧ w'.cell? ⟨wr.heap.size, 1, none⟩ = some (.int .i64 p.f1) ∧ w'.cell? (ad.add (j * 2)) = some (.int .i64 q.f0) ∧ w'.cell? ⟨(ad.add (j * 2)).block, (ad.add (j * 2)).off + 1, none⟩ = some (.int .i64 q.f1)) (ds := []) #[false, false, false, false, false, false, false, false, false, false, false, false, false, false, false, false] (by kernel_rfl) rfl rfl KK.out (fun hHeld => ?_)
           refine with_tabW hgt14_tab hgt14_bits (fun HT_ HW_ => ?_)
           refine take_ (i := 0) (N := some 48) (v := ?_) (a' := ?_) #[true, false, false, false, false, false, false, false, false, false, false, false, false, false, false, false] rfl rfl (take_ofW HT_.out HW_.out (by kernel_rfl)) (fun _ _ _ h => h) (Or.inl ⟨by rfl, ?_⟩) hHeld ?_ ?_
           rotate_left
           · rintro w' ⟨s0, s1, s2, s3⟩
             go_simp
             with_reducible rfl
           rotate_left
           · simp only [Act.put, List.setIfInBounds_toArray, List.set_cons_zero, List.set_cons_succ, i64_w, i32_w]
             rfl
           refine take_ (i := 1) (N := some 49) (v := ?_) (a' := ?_) #[true, true, false, false, false, false, false, false, false, false, false, false, false, false, false, false] rfl rfl (take_ofW HT_.out HW_.out (by kernel_rfl)) (fun _ _ _ h => h) (Or.inl ⟨by rfl, ?_⟩) hHeld ?_ ?_
           rotate_left
           · rintro w' ⟨s0, s1, s2, s3⟩
             go_simp
             with_reducible rfl
           rotate_left
           · simp only [Act.put, List.setIfInBounds_toArray, List.set_cons_zero, List.set_cons_succ, i64_w, i32_w]
             rfl
           refine take_ (i := 2) (N := some 50) (v := ?_) (a' := ?_) #[true, true, true, false, false, false, false, false, false, false, false, false, false, false, false, false] rfl rfl (take_ofW HT_.out HW_.out (by kernel_rfl)) (fun _ _ _ h => h) (Or.inl ⟨by rfl, ?_⟩) hHeld ?_ ?_
           rotate_left
           · rintro w' ⟨s0, s1, s2, s3⟩
             go_simp
             with_reducible rfl
           rotate_left
           · simp only [Act.put, List.setIfInBounds_toArray, List.set_cons_zero, List.set_cons_succ, i64_w, i32_w]
             rfl
           generalize w2.drew = wA at KK HWD HTA hHeld ⊢
           refine take_ (i := 3) (N := some 51) (v := ?_) (a' := ?_) #[true, true, true, true, false, false, false, false, false, false, false, false, false, false, false, false] rfl rfl (take_ofW HT_.out HW_.out (by kernel_rfl)) (fun _ _ _ h => h) (Or.inl ⟨by rfl, ?_⟩) hHeld ?_ ?_
           rotate_left
           · rintro w' ⟨s0, s1, s2, s3⟩
             go_simp
             with_reducible rfl
           rotate_left
           · simp only [Act.put, List.setIfInBounds_toArray, List.set_cons_zero, List.set_cons_succ, i64_w, i32_w]
             rfl
           refine take_ (i := 4) (N := some 52) (v := ?_) (a' := ?_) #[true, true, true, true, true, false, false, false, false, false, false, false, false, false, false, false] rfl rfl (take_ofW HT_.out HW_.out (by kernel_rfl)) (fun _ _ _ h => h) (Or.inl ⟨by rfl, ?_⟩) hHeld ?_ ?_
           rotate_left
           · rintro w' ⟨s0, s1, s2, s3⟩
             go_simp
             with_reducible rfl
           rotate_left
           · simp only [Act.put, List.setIfInBounds_toArray, List.set_cons_zero, List.set_cons_succ, i64_w, i32_w]
             rfl
           refine take_ (i := 5) (N := some 53) (v := ?_) (a' := ?_) #[true, true, true, true, true, true, false, false, false, false, false, false, false, false, false, false] rfl rfl (take_ofW HT_.out HW_.out (by kernel_rfl)) (fun _ _ _ h => h) (Or.inl ⟨by rfl, ?_⟩) hHeld ?_ ?_
           rotate_left
           · rintro w' ⟨s0, s1, s2, s3⟩
             go_simp
             with_reducible rfl
           rotate_left
           · simp only [Act.put, List.setIfInBounds_toArray, List.set_cons_zero, List.set_cons_succ, i64_w, i32_w]
             rfl
           refine take_ (i := 6) (N := some 54) (v := ?_) (a' := ?_) #[true, true, true, true, true, true, true, false, false, false, false, false, false, false, false, false] rfl rfl (take_ofW HT_.out HW_.out (by kernel_rfl)) (fun _ _ _ h => h) (Or.inl ⟨by rfl, ?_⟩) hHeld ?_ ?_
           rotate_left
           · rintro w' ⟨s0, s1, s2, s3⟩
             go_simp
             with_reducible rfl
           rotate_left
           · simp only [Act.put, List.setIfInBounds_toArray, List.set_cons_zero, List.set_cons_succ, i64_w, i32_w]
             rfl
           refine take_ (i := 7) (N := some 55) (v := ?_) (a' := ?_) #[true, true, true, true, true, true, true, true, false, false, false, false, false, false, false, false] rfl rfl (take_ofW HT_.out HW_.out (by kernel_rfl)) (fun _ _ _ h => h) (Or.inl ⟨by rfl, ?_⟩) hHeld ?_ ?_
           rotate_left
           · rintro w' ⟨s0, s1, s2, s3⟩
             go_simp
             with_reducible rfl
           rotate_left
           · simp only [Act.put, List.setIfInBounds_toArray, List.set_cons_zero, List.set_cons_succ, i64_w, i32_w]
             rfl
           refine take_ (i := 8) (N := some 56) (v := ?_) (a' := ?_) #[true, true, true, true, true, true, true, true, true, false, false, false, false, false, false, false] rfl rfl (take_ofW HT_.out HW_.out (by kernel_rfl)) (fun _ _ _ h => h) (Or.inl ⟨by rfl, ?_⟩) hHeld ?_ ?_
           rotate_left
           · rintro w' ⟨s0, s1, s2, s3⟩
             go_simp
             with_reducible rfl
           rotate_left
           · simp only [Act.put, List.setIfInBounds_toArray, List.set_cons_zero, List.set_cons_succ, i64_w, i32_w]
             rfl
           refine take_ (i := 11) (N := some 59) (v := ?_) (a' := ?_) #[true, true, true, true, true, true, true, true, true, false, false, true, false, false, false, false] rfl rfl (take_ofW HT_.out HW_.out (by kernel_rfl)) (fun _ _ _ h => h) (Or.inl ⟨by rfl, ?_⟩) hHeld ?_ ?_
           rotate_left
           · rintro w' ⟨s0, s1, s2, s3⟩
             go_simp
             with_reducible rfl
           rotate_left
           · simp only [Act.put, List.setIfInBounds_toArray, List.set_cons_zero, List.set_cons_succ, i64_w, i32_w]
             rfl
           refine one_ (i := 9) (N := some 57) #[true, true, true, true, true, true, true, true, true, true, false, true, false, false, false, false] rfl rfl (one_of HT_.out (by kernel_rfl)) (by decide) (fun K hK => ?_)
           refine goes_ Try.func52 (by kernel_rfl) rfl #[.pointer (some ⟨g, 0, none⟩), .agg #[.int .i64 q.f0, .int .i64 q.f1]] (by rfl) rfl rfl (by (try simp only [List.map_toArray, List.map_cons, List.map_nil]); first | done | rfl) ?_
           refine (callsIn_wide.1 (moves_in 3 g q.f0 q.f1 wA)).mono ?_
           rintro e w3 ⟨rfl, hw3⟩
           refine ⟨_, rfl, ?_⟩
           have hbb : Below wA.heap.size wA w3 := by rw [hw3]; exact below_alloc (below_alloc (Below.refl _ _) _) _
           have hbt : w3.heap[wA.heap.size]? = some (.cells #[.pointer (some ⟨g, 0, none⟩)] 80 (0, 0)) := by rw [hw3]; exact blk_alloc (blk_new wA _) _
           have hbp : w3.heap[wA.heap.size + 1]? = some (.cells #[.int .i64 q.f0, .int .i64 q.f1] 25 (0, 0)) := by rw [hw3]; have := blk_new (wA.alloc (.cells #[.pointer (some ⟨g, 0, none⟩)] 80)) (.cells #[.int .i64 q.f0, .int .i64 q.f1] 25); rw [World.size_alloc] at this; exact this
           have HMV := Aside0.mk (And.intro hbt (And.intro ((blk_cell hbp 0).trans rfl : w3.cell? ⟨wA.heap.size + 1, 0, none⟩ = some (.int .i64 q.f0)) (And.intro ((blk_cell hbp 1).trans rfl : w3.cell? ⟨wA.heap.size + 1, 1, none⟩ = some (.int .i64 q.f1)) (HTA.out.below hbb))))
           replace KK := Aside0.mk (And.intro (pw_cell_below hbb KK.out.1) (And.intro (pw_cell_below hbb KK.out.2.1) (And.intro (pw_cell_below hbb KK.out.2.2.1) (pw_cell_below hbb KK.out.2.2.2))))
           have HB3 := Aside0.mk (below_then HWD.out HWD.out.size hbb)
           clear hbb hbt hbp hw3
           refine hK.out _ _ KK.out (fun hHeld => ?_)
           clear hK K
           refine norm_ (a' := ?_) ?_ ?_
           rotate_left
           · show Act.put _ (some 57) _ = _
             simp only [Act.put, List.setIfInBounds_toArray, List.set_cons_zero, List.set_cons_succ, i64_w, i32_w]
             rfl
           refine one_ (i := 10) (N := some 58) #[true, true, true, true, true, true, true, true, true, true, true, true, false, false, false, false] rfl rfl (one_of HT_.out (by kernel_rfl)) (by decide) (fun K hK => ?_)
           refine goes_ Try.func67 (by kernel_rfl) rfl #[.func (.func 72) #[] #[.pointer (some ⟨wA.heap.size + 1, 0, none⟩), .pointer (some ⟨wA.heap.size, 0, none⟩)]] (by rfl) rfl rfl (by (try simp only [List.map_toArray, List.map_cons, List.map_nil]); first | done | rfl) ?_
           refine (collect_calls g (wA.heap.size + 1) wA.heap.size l0 l1 q.f0 q.f1 w3 HMV.out.2.1 HMV.out.2.2.1 HMV.out.1 HMV.out.2.2.2 HQI.out.1 HQI.out.2).mono ?_
           rintro e w4 ⟨Am, cm, rfl, hcm, hCm, hbb⟩
           refine ⟨_, rfl, ?_⟩
           rw [HMM.out] at hcm hCm ⊢
           have HCM := Aside0.mk (And.intro hcm hCm)
           replace KK := Aside0.mk (And.intro (pw_cell_below hbb KK.out.1) (And.intro (pw_cell_below hbb KK.out.2.1) (And.intro (pw_cell_below hbb KK.out.2.2.1) (pw_cell_below hbb KK.out.2.2.2))))
           have HB4 := Aside0.mk (below_then HB3.out HB3.out.size hbb)
           clear hbb hcm hCm
           refine hK.out _ _ KK.out (fun hHeld => ?_)
           clear hK K
           refine norm_ (a' := ?_) ?_ ?_
           rotate_left
           · show Act.put _ (some 58) _ = _
             simp only [Act.put, List.setIfInBounds_toArray, List.set_cons_zero, List.set_cons_succ, i64_w, i32_w]
             rfl
           refine one_ (i := 12) (N := some 60) #[true, true, true, true, true, true, true, true, true, true, true, true, true, false, false, false] rfl rfl (one_of HT_.out (by kernel_rfl)) (by decide) (fun K hK => ?_)
           refine goes_ Try.func66 (by kernel_rfl) rfl #[.slice Am mv.length cm, .agg #[.int .i64 p.f0, .int .i64 p.f1]] (by rfl) rfl rfl (by (try simp only [List.map_toArray, List.map_cons, List.map_nil]); first | done | rfl) ?_
           refine (align_Pair_66.calls 10 Am cm mv p.f0 p.f1 z2 w4 HCM.out.2 HCM.out.1 HZ2.out).mono ?_
           rintro e w5 ⟨rfl, hbb⟩
           refine ⟨_, rfl, ?_⟩
           replace KK := Aside0.mk (And.intro (pw_cell_below hbb KK.out.1) (And.intro (pw_cell_below hbb KK.out.2.1) (And.intro (pw_cell_below hbb KK.out.2.2.1) (pw_cell_below hbb KK.out.2.2.2))))
           have HW3 := Aside0.mk (below_then HB4.out HB4.out.size hbb)
           clear hbb
           refine hK.out _ _ KK.out (fun hHeld => ?_)
           clear hK K
           refine norm_ (a' := ?_) ?_ ?_
           rotate_left
           · show Act.put _ (some 60) _ = _
             simp only [Act.put, List.setIfInBounds_toArray, List.set_cons_zero, List.set_cons_succ, i64_w, i32_w]
             rfl
           refine take_ (i := 13) (N := some 61) (v := ?_) (a' := ?_) #[true, true, true, true, true, true, true, true, true, true, true, true, true, true, false, false] rfl rfl (take_ofW HT_.out HW_.out (by kernel_rfl)) (fun _ _ _ h => h) (Or.inl ⟨by rfl, ?_⟩) hHeld ?_ ?_
           rotate_left
           · rintro w' ⟨s0, s1, s2, s3⟩
             go_simp
             with_reducible rfl
           rotate_left
           · simp only [Act.put, List.setIfInBounds_toArray, List.set_cons_zero, List.set_cons_succ, i64_w, i32_w]
             rfl
           refine take_ (i := 14) (N := some 62) (v := ?_) (a' := ?_) #[true, true, true, true, true, true, true, true, true, true, true, true, true, true, true, false] rfl rfl (take_ofW HT_.out HW_.out (by kernel_rfl)) (fun _ _ _ h => h) (Or.inl ⟨by rfl, ?_⟩) hHeld ?_ ?_
           rotate_left
           · rintro w' ⟨s0, s1, s2, s3⟩
             go_simp
             with_reducible rfl
           rotate_left
           · simp only [Act.put, List.setIfInBounds_toArray, List.set_cons_zero, List.set_cons_succ, i64_w, i32_w]
             rfl
           refine take_ (i := 15) (N := some 47) (v := ?_) (a' := ?_) #[true, true, true, true, true, true, true, true, true, true, true, true, true, true, true, true] rfl rfl (take_ofW HT_.out HW_.out (by kernel_rfl)) (fun _ _ _ h => h) (Or.inl ⟨by rfl, ?_⟩) hHeld ?_ ?_
           rotate_left
           · rintro w' ⟨s0, s1, s2, s3⟩
             go_simp
             with_reducible rfl
           rotate_left
           · simp only [Act.put, List.setIfInBounds_toArray, List.set_cons_zero, List.set_cons_succ, i64_w, i32_w]
             rfl
           refine done_ (done_of HT_.out (by kernel_rfl)) ?_
           cases z2 with
           | false =>
            go_wp2
            go_ret2
            have h7 : htAt l0 l1 l3 i = 7 := by unfold htAt; rw [HP.out, ← HQ.out.2, HQ.out.1, if_neg (by rw [HZ.out]; decide), if_neg (show ¬ i = 0 by omega), if_pos HZ3.out]
            have hv := HV.out
            rw [HS.out.err hlt h7 (by decide)] at hv
            obtain ⟨rfl, rfl⟩ := Prod.mk.inj hv
            exact ⟨rfl, HB.out.trans ((HS.out.below.trans (HW3.out.mono HS.out.below.size)).mono HB.out.size)⟩
           | true =>
            have hpp := (hasP_iff l0 l1 _ _).1 HZ.out
            have d0 := KK.out.1
            have d1 := KK.out.2.1
            go_wp2_with (go_at_call 47; refine (far_calls g l0 l1 p.f0 p.f1 _ (HTW.out.below HW3.out) HO.out hpp.1.1 hpp.1.2 hpp.2.1 hpp.2.2).mono ?_; rintro e w6 ⟨rfl, hb4⟩; have HW4 := Aside0.mk (below_then HW3.out HW3.out.size hb4); clear hb4)
            have h0 : htAt l0 l1 l3 (i) = 0 := by unfold htAt; rw [HP.out, ← HQ.out.2, HQ.out.1, if_neg (by rw [HZ.out]; decide), if_neg (show ¬ i = 0 by omega), if_neg (by rw [HZ3.out]; decide)]
            have hwi : wrap64 ((i : Int) + 1) = ((i + 1 : Nat) : Int) := by rw [w64' _ (by omega) (by have := HL.out; omega)]; rfl
            (try rw [hwi])
            clear hwi
            refine ⟨⟨i + 1, mx ht (farD (rd_T59 l0 p.f0) (rd_T59 l1 p.f1)), hlt, rfl, rfl, ⟨by have := HS.out.next hlt h0 (by rw [HP.out]; exact HZ.out) HW4.out; rw [HP.out] at this; exact this⟩⟩, by show l3.length - (((i + 1 : Nat) : Int)).toNat < l3.length - ((i : Int)).toNat; omega⟩
         · have hgt : decide ((i : Int) > 0) = false := decide_eq_false (by omega)
           have hgt2 : decide ((0 : Int) < (i : Int)) = false := decide_eq_false (by omega)
           have hz2 : ((i : Int) == 0) = true := beq_iff_eq.2 (by omega)
           have hz3 : decide ((i : Int) = 0) = true := decide_eq_true (by omega)
           have HI0 := Aside0.mk (show i = 0 by omega)

           by_cases hpz : p.f0 = 0 ∧ p.f1 = 0
           · have b0 : (p.f0 == 0 && p.f1 == 0) = true := by simp [hpz.1, hpz.2]
             have HPZ := Aside0.mk hpz
             clear hpz
             go_wp2_with (go_at_call 46; refine HCALL.out.mono ?_; rintro e w2 ⟨rfl, hb2⟩; have HX2 := Aside0.mk (blk_below HBB.out.2 hb2); have HW2 := Aside0.mk (below_then HBB.out.1 HBB.out.1.size hb2); have d0 : w2.cell? ⟨wr.heap.size, 0, none⟩ = some (.int .i64 p.f0) := (blk_cell HX2.out 0).trans rfl; have d1 : w2.cell? ⟨wr.heap.size, 1, none⟩ = some (.int .i64 p.f1) := (blk_cell HX2.out 1).trans rfl; clear hb2)
             have KK := Aside0.mk (And.intro (show w2.drew.cell? ⟨wr.heap.size, 0, none⟩ = some (.int .i64 p.f0) from (blk_cell HX2.out 0).trans rfl) (show w2.drew.cell? ⟨wr.heap.size, 1, none⟩ = some (.int .i64 p.f1) from (blk_cell HX2.out 1).trans rfl))
             have HW3 := Aside0.mk (show Below wr.heap.size wr w2.drew from below_then HW2.out HW2.out.size (pw_below_drewN (Below.refl _ _) 1))
             clear x0 x1 d0 d1 hz2 hz3
             refine start_ (n := 16) (S := fun w' => w'.cell? ⟨wr.heap.size, 0, none⟩ = some (.int .i64 p.f0) ∧ w'.cell? ⟨wr.heap.size, 1, none⟩ = some (.int .i64 p.f1)) (ds := []) #[false, false, false, false, false, false, false, false, false, false, false, false, false, false, false, false] (by kernel_rfl) rfl rfl KK.out (fun hHeld => ?_)
             refine with_tabW hgt14_tab hgt14_bits (fun HT_ HW_ => ?_)
             refine take_ (i := 0) (N := some 48) (v := ?_) (a' := ?_) #[true, false, false, false, false, false, false, false, false, false, false, false, false, false, false, false] rfl rfl (take_ofW HT_.out HW_.out (by kernel_rfl)) (fun _ _ _ h => h) (Or.inl ⟨by rfl, ?_⟩) hHeld ?_ ?_
             rotate_left
             · rintro w' ⟨s0, s1⟩
               go_simp
               with_reducible rfl
             rotate_left
             · simp only [Act.put, List.setIfInBounds_toArray, List.set_cons_zero, List.set_cons_succ, i64_w, i32_w]
               rfl
             refine take_ (i := 1) (N := some 49) (v := ?_) (a' := ?_) #[true, true, false, false, false, false, false, false, false, false, false, false, false, false, false, false] rfl rfl (take_ofW HT_.out HW_.out (by kernel_rfl)) (fun _ _ _ h => h) (Or.inl ⟨by rfl, ?_⟩) hHeld ?_ ?_
             rotate_left
             · rintro w' ⟨s0, s1⟩
               go_simp
               with_reducible rfl
             rotate_left
             · simp only [Act.put, List.setIfInBounds_toArray, List.set_cons_zero, List.set_cons_succ, i64_w, i32_w]
               rfl
             refine take_ (i := 2) (N := some 50) (v := ?_) (a' := ?_) #[true, true, true, false, false, false, false, false, false, false, false, false, false, false, false, false] rfl rfl (take_ofW HT_.out HW_.out (by kernel_rfl)) (fun _ _ _ h => h) (Or.inl ⟨by rfl, ?_⟩) hHeld ?_ ?_
             rotate_left
             · rintro w' ⟨s0, s1⟩
               go_simp
               with_reducible rfl
             rotate_left
             · simp only [Act.put, List.setIfInBounds_toArray, List.set_cons_zero, List.set_cons_succ, i64_w, i32_w]
               rfl
             generalize w2.drew = w5 at KK HW3 hHeld ⊢
             refine take_ (i := 3) (N := some 51) (v := undef) (a' := ?_) #[true, true, true, true, false, false, false, false, false, false, false, false, false, false, false, false] rfl rfl (take_ofW HT_.out HW_.out (by kernel_rfl)) (fun _ _ _ h => h) (Or.inr ⟨by rfl, rfl⟩) hHeld ?_ ?_
             rotate_left
             · simp only [Act.put, List.setIfInBounds_toArray, List.set_cons_zero, List.set_cons_succ, i64_w, i32_w]
               rfl
             refine take_ (i := 4) (N := some 52) (v := undef) (a' := ?_) #[true, true, true, true, true, false, false, false, false, false, false, false, false, false, false, false] rfl rfl (take_ofW HT_.out HW_.out (by kernel_rfl)) (fun _ _ _ h => h) (Or.inr ⟨by rfl, rfl⟩) hHeld ?_ ?_
             rotate_left
             · simp only [Act.put, List.setIfInBounds_toArray, List.set_cons_zero, List.set_cons_succ, i64_w, i32_w]
               rfl
             refine take_ (i := 5) (N := some 53) (v := undef) (a' := ?_) #[true, true, true, true, true, true, false, false, false, false, false, false, false, false, false, false] rfl rfl (take_ofW HT_.out HW_.out (by kernel_rfl)) (fun _ _ _ h => h) (Or.inr ⟨by rfl, rfl⟩) hHeld ?_ ?_
             rotate_left
             · simp only [Act.put, List.setIfInBounds_toArray, List.set_cons_zero, List.set_cons_succ, i64_w, i32_w]
               rfl
             refine take_ (i := 6) (N := some 54) (v := undef) (a' := ?_) #[true, true, true, true, true, true, true, false, false, false, false, false, false, false, false, false] rfl rfl (take_ofW HT_.out HW_.out (by kernel_rfl)) (fun _ _ _ h => h) (Or.inr ⟨by rfl, rfl⟩) hHeld ?_ ?_
             rotate_left
             · simp only [Act.put, List.setIfInBounds_toArray, List.set_cons_zero, List.set_cons_succ, i64_w, i32_w]
               rfl
             refine take_ (i := 7) (N := some 55) (v := undef) (a' := ?_) #[true, true, true, true, true, true, true, true, false, false, false, false, false, false, false, false] rfl rfl (take_ofW HT_.out HW_.out (by kernel_rfl)) (fun _ _ _ h => h) (Or.inr ⟨by rfl, rfl⟩) hHeld ?_ ?_
             rotate_left
             · simp only [Act.put, List.setIfInBounds_toArray, List.set_cons_zero, List.set_cons_succ, i64_w, i32_w]
               rfl
             refine take_ (i := 8) (N := some 56) (v := undef) (a' := ?_) #[true, true, true, true, true, true, true, true, true, false, false, false, false, false, false, false] rfl rfl (take_ofW HT_.out HW_.out (by kernel_rfl)) (fun _ _ _ h => h) (Or.inr ⟨by rfl, rfl⟩) hHeld ?_ ?_
             rotate_left
             · simp only [Act.put, List.setIfInBounds_toArray, List.set_cons_zero, List.set_cons_succ, i64_w, i32_w]
               rfl
             refine take_ (i := 9) (N := some 57) (v := undef) (a' := ?_) #[true, true, true, true, true, true, true, true, true, true, false, false, false, false, false, false] rfl rfl (take_ofW HT_.out HW_.out (by kernel_rfl)) (fun _ _ _ h => h) (Or.inr ⟨by rfl, rfl⟩) hHeld ?_ ?_
             rotate_left
             · simp only [Act.put, List.setIfInBounds_toArray, List.set_cons_zero, List.set_cons_succ, i64_w, i32_w]
               rfl
             refine take_ (i := 10) (N := some 58) (v := undef) (a' := ?_) #[true, true, true, true, true, true, true, true, true, true, true, false, false, false, false, false] rfl rfl (take_ofW HT_.out HW_.out (by kernel_rfl)) (fun _ _ _ h => h) (Or.inr ⟨by rfl, rfl⟩) hHeld ?_ ?_
             rotate_left
             · simp only [Act.put, List.setIfInBounds_toArray, List.set_cons_zero, List.set_cons_succ, i64_w, i32_w]
               rfl
             refine take_ (i := 11) (N := some 59) (v := undef) (a' := ?_) #[true, true, true, true, true, true, true, true, true, true, true, true, false, false, false, false] rfl rfl (take_ofW HT_.out HW_.out (by kernel_rfl)) (fun _ _ _ h => h) (Or.inr ⟨by rfl, rfl⟩) hHeld ?_ ?_
             rotate_left
             · simp only [Act.put, List.setIfInBounds_toArray, List.set_cons_zero, List.set_cons_succ, i64_w, i32_w]
               rfl
             refine take_ (i := 12) (N := some 60) (v := undef) (a' := ?_) #[true, true, true, true, true, true, true, true, true, true, true, true, true, false, false, false] rfl rfl (take_ofW HT_.out HW_.out (by kernel_rfl)) (fun _ _ _ h => h) (Or.inr ⟨by rfl, rfl⟩) hHeld ?_ ?_
             rotate_left
             · simp only [Act.put, List.setIfInBounds_toArray, List.set_cons_zero, List.set_cons_succ, i64_w, i32_w]
               rfl
             refine take_ (i := 13) (N := some 61) (v := undef) (a' := ?_) #[true, true, true, true, true, true, true, true, true, true, true, true, true, true, false, false] rfl rfl (take_ofW HT_.out HW_.out (by kernel_rfl)) (fun _ _ _ h => h) (Or.inr ⟨by rfl, rfl⟩) hHeld ?_ ?_
             rotate_left
             · simp only [Act.put, List.setIfInBounds_toArray, List.set_cons_zero, List.set_cons_succ, i64_w, i32_w]
               rfl
             refine take_ (i := 14) (N := some 62) (v := ?_) (a' := ?_) #[true, true, true, true, true, true, true, true, true, true, true, true, true, true, true, false] rfl rfl (take_ofW HT_.out HW_.out (by kernel_rfl)) (fun _ _ _ h => h) (Or.inl ⟨by rfl, ?_⟩) hHeld ?_ ?_
             rotate_left
             · rintro w' ⟨s0, s1⟩
               go_simp
               with_reducible rfl
             rotate_left
             · simp only [Act.put, List.setIfInBounds_toArray, List.set_cons_zero, List.set_cons_succ, i64_w, i32_w]
               rfl
             refine take_ (i := 15) (N := some 47) (v := ?_) (a' := ?_) #[true, true, true, true, true, true, true, true, true, true, true, true, true, true, true, true] rfl rfl (take_ofW HT_.out HW_.out (by kernel_rfl)) (fun _ _ _ h => h) (Or.inl ⟨by rfl, ?_⟩) hHeld ?_ ?_
             rotate_left
             · rintro w' ⟨s0, s1⟩
               go_simp
               with_reducible rfl
             rotate_left
             · simp only [Act.put, List.setIfInBounds_toArray, List.set_cons_zero, List.set_cons_succ, i64_w, i32_w]
               rfl
             refine done_ (done_of HT_.out (by kernel_rfl)) ?_
             have hpp := (hasP_iff l0 l1 _ _).1 HZ.out
             have d0 := KK.out.1
             have d1 := KK.out.2
             go_wp2_with (go_at_call 47; refine (far_calls g l0 l1 p.f0 p.f1 _ (HTW.out.below HW3.out) HO.out hpp.1.1 hpp.1.2 hpp.2.1 hpp.2.2).mono ?_; rintro e w6 ⟨rfl, hb4⟩; have HW4 := Aside0.mk (below_then HW3.out HW3.out.size hb4); clear hb4)
             have h0 : htAt l0 l1 l3 (i) = 0 := by unfold htAt; rw [HP.out, if_neg (by rw [HZ.out]; decide), if_pos HI0.out, if_pos HPZ.out]
             have hwi : wrap64 ((i : Int) + 1) = ((i + 1 : Nat) : Int) := by rw [w64' _ (by omega) (by have := HL.out; omega)]; rfl
             (try rw [hwi])
             clear hwi
             refine ⟨⟨i + 1, mx ht (farD (rd_T59 l0 p.f0) (rd_T59 l1 p.f1)), hlt, rfl, rfl, ⟨by have := HS.out.next hlt h0 (by rw [HP.out]; exact HZ.out) HW4.out; rw [HP.out] at this; exact this⟩⟩, by show l3.length - (((i + 1 : Nat) : Int)).toNat < l3.length - ((i : Int)).toNat; omega⟩
           · have b0 : (p.f0 == 0 && p.f1 == 0) = false := by
              cases h : (p.f0 == 0 && p.f1 == 0) with
              | false => rfl
              | true => simp at h; exact absurd h hpz
             have HPZ := Aside0.mk hpz
             clear hpz
             go_wp2_with (go_at_call 46; refine HCALL.out.mono ?_; rintro e w2 ⟨rfl, hb2⟩; have HX2 := Aside0.mk (blk_below HBB.out.2 hb2); have HW2 := Aside0.mk (below_then HBB.out.1 HBB.out.1.size hb2); have d0 : w2.cell? ⟨wr.heap.size, 0, none⟩ = some (.int .i64 p.f0) := (blk_cell HX2.out 0).trans rfl; have d1 : w2.cell? ⟨wr.heap.size, 1, none⟩ = some (.int .i64 p.f1) := (blk_cell HX2.out 1).trans rfl; clear hb2)
             go_ret2
             have h7 : htAt l0 l1 l3 i = 7 := by unfold htAt; rw [HP.out, if_neg (by rw [HZ.out]; decide), if_pos HI0.out, if_neg HPZ.out]
             have hv := HV.out
             rw [HS.out.err hlt h7 (by decide)] at hv
             obtain ⟨rfl, rfl⟩ := Prod.mk.inj hv
             exact ⟨rfl, HB.out.trans ((HS.out.below.trans (HW2.out.mono HS.out.below.size)).mono HB.out.size)⟩
      · have hdec : decide ((i : Int) < (l3.length : Int)) = false := decide_eq_false (by omega)
        obtain rfl : i = l3.length := by omega
        have hv := HV.out
        rw [HS.out.eq, Nat.sub_self, htFrom] at hv
        have HV2 := Aside0.mk hv
        clear hv
        have hC := Kd.C_below (Kd.C_below HR3.out HB.out) (HS.out.below)
        obtain ⟨L1, hL1⟩ : ∃ L1, L1 = l3.length - 1 := ⟨_, rfl⟩
        obtain ⟨ad, rfl, y0, y1⟩ := at_T25 hC (L1 : Int) (by omega) (by omega)
        have e1 : wrap64 ((l3.length : Int) - 1) = (L1 : Int) := by rw [w64' _ (by omega) (by have := HL.out; omega)]; omega
        have e2 : L1 < l3.length := by omega
        rw [← hL1] at HV2
        obtain ⟨q, hq⟩ : ∃ q, rd_T25 l3 (L1 : Int) = q := ⟨_, rfl⟩
        rw [hq] at HV2
        rw [hq, Int.toNat_natCast] at y0 y1
        obtain ⟨At0, ct0, At1, ct1, hTb, _, _⟩ := HTW.out
        obtain ⟨n1, hn1⟩ : ∃ n1, n1 = (l0.length : Int) - 1 := ⟨_, rfl⟩
        obtain ⟨m1, hm1⟩ : ∃ m1, m1 = (l1.length : Int) - 1 := ⟨_, rfl⟩
        rw [← hn1, ← hm1] at hTb HV2
        have g2 : wr.cell? ⟨g, 2, none⟩ = some (.int .i64 n1) := (blk_cell hTb 2).trans rfl
        have g3 : wr.cell? ⟨g, 3, none⟩ = some (.int .i64 m1) := (blk_cell hTb 3).trans rfl
        have hwd : Below wr.heap.size wr wr.drew := pw_below_drewN (Below.refl _ _) 1
        have KK := Aside0.mk (And.intro (pw_cell_below hwd y0) (And.intro (pw_cell_below hwd y1) (And.intro (pw_cell_below hwd g2) (pw_cell_below hwd g3))))
        have HWD := Aside0.mk hwd
        clear hL1 hq hn1 hm1 hTb g2 g3 y0 y1 hC hwd
        by_cases hz : q.f0 = n1 ∧ q.f1 = m1
        · have b0 : (q.f0 == n1 && q.f1 == m1) = true := by simp [hz.1, hz.2]
          have HZZ := Aside0.mk hz
          clear hz
          go_upto_region 18 with fail
          refine start_ (n := 11) (S := fun w' => w'.cell? (ad.add (L1 * 2)) = some (.int .i64 q.f0) ∧ w'.cell? ⟨(ad.add (L1 * 2)).block, (ad.add (L1 * 2)).off + 1, none⟩ = some (.int .i64 q.f1) ∧ w'.cell? ⟨g, 2, none⟩ = some (.int .i64 n1) ∧ w'.cell? ⟨g, 3, none⟩ = some (.int .i64 m1)) (ds := []) #[false, false, false, false, false, false, false, false, false, false, false] (by kernel_rfl) rfl rfl KK.out (fun hHeld => ?_)
          refine with_tabW hgt18_tab hgt18_bits (fun HT_ HW_ => ?_)
          refine take_ (i := 0) (N := some 69) (v := ?_) (a' := ?_) #[true, false, false, false, false, false, false, false, false, false, false] rfl rfl (take_ofW HT_.out HW_.out (by kernel_rfl)) (fun _ _ _ h => h) (Or.inl ⟨by rfl, ?_⟩) hHeld ?_ ?_
          rotate_left
          · rintro w' ⟨s0, s1, s2, s3⟩
            go_simp
            with_reducible rfl
          rotate_left
          · simp only [Act.put, List.setIfInBounds_toArray, List.set_cons_zero, List.set_cons_succ, i64_w, i32_w]
            rfl
          refine take_ (i := 1) (N := some 70) (v := ?_) (a' := ?_) #[true, true, false, false, false, false, false, false, false, false, false] rfl rfl (take_ofW HT_.out HW_.out (by kernel_rfl)) (fun _ _ _ h => h) (Or.inl ⟨by rfl, ?_⟩) hHeld ?_ ?_
          rotate_left
          · rintro w' ⟨s0, s1, s2, s3⟩
            go_simp
            with_reducible rfl
          rotate_left
          · simp only [Act.put, List.setIfInBounds_toArray, List.set_cons_zero, List.set_cons_succ, i64_w, i32_w]
            rfl
          refine take_ (i := 2) (N := some 71) (v := ?_) (a' := ?_) #[true, true, true, false, false, false, false, false, false, false, false] rfl rfl (take_ofW HT_.out HW_.out (by kernel_rfl)) (fun _ _ _ h => h) (Or.inl ⟨by rfl, ?_⟩) hHeld ?_ ?_
          rotate_left
          · rintro w' ⟨s0, s1, s2, s3⟩
            go_simp
            with_reducible rfl
          rotate_left
          · simp only [Act.put, List.setIfInBounds_toArray, List.set_cons_zero, List.set_cons_succ, i64_w, i32_w]
            rfl
          refine take_ (i := 3) (N := some 72) (v := ?_) (a' := ?_) #[true, true, true, true, false, false, false, false, false, false, false] rfl rfl (take_ofW HT_.out HW_.out (by kernel_rfl)) (fun _ _ _ h => h) (Or.inl ⟨by rfl, ?_⟩) hHeld ?_ ?_
          rotate_left
          · rintro w' ⟨s0, s1, s2, s3⟩
            go_simp
            with_reducible rfl
          rotate_left
          · simp only [Act.put, List.setIfInBounds_toArray, List.set_cons_zero, List.set_cons_succ, i64_w, i32_w]
            rfl
          refine take_ (i := 4) (N := some 73) (v := ?_) (a' := ?_) #[true, true, true, true, true, false, false, false, false, false, false] rfl rfl (take_ofW HT_.out HW_.out (by kernel_rfl)) (fun _ _ _ h => h) (Or.inl ⟨by rfl, ?_⟩) hHeld ?_ ?_
          rotate_left
          · rintro w' ⟨s0, s1, s2, s3⟩
            go_simp
            with_reducible rfl
          rotate_left
          · simp only [Act.put, List.setIfInBounds_toArray, List.set_cons_zero, List.set_cons_succ, i64_w, i32_w]
            rfl
          refine take_ (i := 5) (N := some 74) (v := ?_) (a' := ?_) #[true, true, true, true, true, true, false, false, false, false, false] rfl rfl (take_ofW HT_.out HW_.out (by kernel_rfl)) (fun _ _ _ h => h) (Or.inl ⟨by rfl, ?_⟩) hHeld ?_ ?_
          rotate_left
          · rintro w' ⟨s0, s1, s2, s3⟩
            go_simp
            with_reducible rfl
          rotate_left
          · simp only [Act.put, List.setIfInBounds_toArray, List.set_cons_zero, List.set_cons_succ, i64_w, i32_w]
            rfl
          refine take_ (i := 6) (N := some 75) (v := ?_) (a' := ?_) #[true, true, true, true, true, true, true, false, false, false, false] rfl rfl (take_ofW HT_.out HW_.out (by kernel_rfl)) (fun _ _ _ h => h) (Or.inl ⟨by rfl, ?_⟩) hHeld ?_ ?_
          rotate_left
          · rintro w' ⟨s0, s1, s2, s3⟩
            go_simp
            with_reducible rfl
          rotate_left
          · simp only [Act.put, List.setIfInBounds_toArray, List.set_cons_zero, List.set_cons_succ, i64_w, i32_w]
            rfl
          refine take_ (i := 7) (N := some 76) (v := ?_) (a' := ?_) #[true, true, true, true, true, true, true, true, false, false, false] rfl rfl (take_ofW HT_.out HW_.out (by kernel_rfl)) (fun _ _ _ h => h) (Or.inl ⟨by rfl, ?_⟩) hHeld ?_ ?_
          rotate_left
          · rintro w' ⟨s0, s1, s2, s3⟩
            go_simp
            with_reducible rfl
          rotate_left
          · simp only [Act.put, List.setIfInBounds_toArray, List.set_cons_zero, List.set_cons_succ, i64_w, i32_w]
            rfl
          refine take_ (i := 8) (N := some 77) (v := ?_) (a' := ?_) #[true, true, true, true, true, true, true, true, true, false, false] rfl rfl (take_ofW HT_.out HW_.out (by kernel_rfl)) (fun _ _ _ h => h) (Or.inl ⟨by rfl, ?_⟩) hHeld ?_ ?_
          rotate_left
          · rintro w' ⟨s0, s1, s2, s3⟩
            go_simp
            with_reducible rfl
          rotate_left
          · simp only [Act.put, List.setIfInBounds_toArray, List.set_cons_zero, List.set_cons_succ, i64_w, i32_w]
            rfl
          refine take_ (i := 9) (N := some 78) (v := ?_) (a' := ?_) #[true, true, true, true, true, true, true, true, true, true, false] rfl rfl (take_ofW HT_.out HW_.out (by kernel_rfl)) (fun _ _ _ h => h) (Or.inl ⟨by rfl, ?_⟩) hHeld ?_ ?_
          rotate_left
          · rintro w' ⟨s0, s1, s2, s3⟩
            go_simp
            with_reducible rfl
          rotate_left
          · simp only [Act.put, List.setIfInBounds_toArray, List.set_cons_zero, List.set_cons_succ, i64_w, i32_w]
            rfl
          refine take_ (i := 10) (N := some 79) (v := ?_) (a' := ?_) #[true, true, true, true, true, true, true, true, true, true, true] rfl rfl (take_ofW HT_.out HW_.out (by kernel_rfl)) (fun _ _ _ h => h) (Or.inl ⟨by rfl, ?_⟩) hHeld ?_ ?_
          rotate_left
          · rintro w' ⟨s0, s1, s2, s3⟩
            go_simp
            with_reducible rfl
          rotate_left
          · simp only [Act.put, List.setIfInBounds_toArray, List.set_cons_zero, List.set_cons_succ, i64_w, i32_w]
            rfl
          refine done_ (done_of HT_.out (by kernel_rfl)) ?_
          go_wp2
          go_ret2
          have hv := HV2.out
          rw [if_pos HZZ.out] at hv
          obtain ⟨rfl, rfl⟩ := Prod.mk.inj hv
          exact ⟨rfl, HB.out.trans ((HS.out.below.trans (HWD.out.mono HS.out.below.size)).mono HB.out.size)⟩
        · have b0 : (q.f0 == n1 && q.f1 == m1) = false := by
           cases h : (q.f0 == n1 && q.f1 == m1) with
           | false => rfl
           | true => simp at h; exact absurd h hz
          have HZZ := Aside0.mk hz
          clear hz
          go_upto_region 18 with fail
          refine start_ (n := 11) (S := fun w' => w'.cell? (ad.add (L1 * 2)) = some (.int .i64 q.f0) ∧ w'.cell? ⟨(ad.add (L1 * 2)).block, (ad.add (L1 * 2)).off + 1, none⟩ = some (.int .i64 q.f1) ∧ w'.cell? ⟨g, 2, none⟩ = some (.int .i64 n1) ∧ w'.cell? ⟨g, 3, none⟩ = some (.int .i64 m1)) (ds := []) #[false, false, false, false, false, false, false, false, false, false, false] (by kernel_rfl) rfl rfl KK.out (fun hHeld => ?_)
          refine with_tabW hgt18_tab hgt18_bits (fun HT_ HW_ => ?_)
          refine take_ (i := 0) (N := some 69) (v := ?_) (a' := ?_) #[true, false, false, false, false, false, false, false, false, false, false] rfl rfl (take_ofW HT_.out HW_.out (by kernel_rfl)) (fun _ _ _ h => h) (Or.inl ⟨by rfl, ?_⟩) hHeld ?_ ?_
          rotate_left
          · rintro w' ⟨s0, s1, s2, s3⟩
            go_simp
            with_reducible rfl
          rotate_left
          · simp only [Act.put, List.setIfInBounds_toArray, List.set_cons_zero, List.set_cons_succ, i64_w, i32_w]
            rfl
          refine take_ (i := 1) (N := some 70) (v := ?_) (a' := ?_) #[true, true, false, false, false, false, false, false, false, false, false] rfl rfl (take_ofW HT_.out HW_.out (by kernel_rfl)) (fun _ _ _ h => h) (Or.inl ⟨by rfl, ?_⟩) hHeld ?_ ?_
          rotate_left
          · rintro w' ⟨s0, s1, s2, s3⟩
            go_simp
            with_reducible rfl
          rotate_left
          · simp only [Act.put, List.setIfInBounds_toArray, List.set_cons_zero, List.set_cons_succ, i64_w, i32_w]
            rfl
          refine take_ (i := 2) (N := some 71) (v := ?_) (a' := ?_) #[true, true, true, false, false, false, false, false, false, false, false] rfl rfl (take_ofW HT_.out HW_.out (by kernel_rfl)) (fun _ _ _ h => h) (Or.inl ⟨by rfl, ?_⟩) hHeld ?_ ?_
          rotate_left
          · rintro w' ⟨s0, s1, s2, s3⟩
            go_simp
            with_reducible rfl
          rotate_left
          · simp only [Act.put, List.setIfInBounds_toArray, List.set_cons_zero, List.set_cons_succ, i64_w, i32_w]
            rfl
          refine take_ (i := 3) (N := some 72) (v := ?_) (a' := ?_) #[true, true, true, true, false, false, false, false, false, false, false] rfl rfl (take_ofW HT_.out HW_.out (by kernel_rfl)) (fun _ _ _ h => h) (Or.inl ⟨by rfl, ?_⟩) hHeld ?_ ?_
          rotate_left
          · rintro w' ⟨s0, s1, s2, s3⟩
            go_simp
            with_reducible rfl
          rotate_left
          · simp only [Act.put, List.setIfInBounds_toArray, List.set_cons_zero, List.set_cons_succ, i64_w, i32_w]
            rfl
          refine take_ (i := 4) (N := some 73) (v := ?_) (a' := ?_) #[true, true, true, true, true, false, false, false, false, false, false] rfl rfl (take_ofW HT_.out HW_.out (by kernel_rfl)) (fun _ _ _ h => h) (Or.inl ⟨by rfl, ?_⟩) hHeld ?_ ?_
          rotate_left
          · rintro w' ⟨s0, s1, s2, s3⟩
            go_simp
            with_reducible rfl
          rotate_left
          · simp only [Act.put, List.setIfInBounds_toArray, List.set_cons_zero, List.set_cons_succ, i64_w, i32_w]
            rfl
          refine take_ (i := 5) (N := some 74) (v := ?_) (a' := ?_) #[true, true, true, true, true, true, false, false, false, false, false] rfl rfl (take_ofW HT_.out HW_.out (by kernel_rfl)) (fun _ _ _ h => h) (Or.inl ⟨by rfl, ?_⟩) hHeld ?_ ?_
          rotate_left
          · rintro w' ⟨s0, s1, s2, s3⟩
            go_simp
            with_reducible rfl
          rotate_left
          · simp only [Act.put, List.setIfInBounds_toArray, List.set_cons_zero, List.set_cons_succ, i64_w, i32_w]
            rfl
          refine take_ (i := 6) (N := some 75) (v := ?_) (a' := ?_) #[true, true, true, true, true, true, true, false, false, false, false] rfl rfl (take_ofW HT_.out HW_.out (by kernel_rfl)) (fun _ _ _ h => h) (Or.inl ⟨by rfl, ?_⟩) hHeld ?_ ?_
          rotate_left
          · rintro w' ⟨s0, s1, s2, s3⟩
            go_simp
            with_reducible rfl
          rotate_left
          · simp only [Act.put, List.setIfInBounds_toArray, List.set_cons_zero, List.set_cons_succ, i64_w, i32_w]
            rfl
          refine take_ (i := 7) (N := some 76) (v := ?_) (a' := ?_) #[true, true, true, true, true, true, true, true, false, false, false] rfl rfl (take_ofW HT_.out HW_.out (by kernel_rfl)) (fun _ _ _ h => h) (Or.inl ⟨by rfl, ?_⟩) hHeld ?_ ?_
          rotate_left
          · rintro w' ⟨s0, s1, s2, s3⟩
            go_simp
            with_reducible rfl
          rotate_left
          · simp only [Act.put, List.setIfInBounds_toArray, List.set_cons_zero, List.set_cons_succ, i64_w, i32_w]
            rfl
          refine take_ (i := 8) (N := some 77) (v := ?_) (a' := ?_) #[true, true, true, true, true, true, true, true, true, false, false] rfl rfl (take_ofW HT_.out HW_.out (by kernel_rfl)) (fun _ _ _ h => h) (Or.inl ⟨by rfl, ?_⟩) hHeld ?_ ?_
          rotate_left
          · rintro w' ⟨s0, s1, s2, s3⟩
            go_simp
            with_reducible rfl
          rotate_left
          · simp only [Act.put, List.setIfInBounds_toArray, List.set_cons_zero, List.set_cons_succ, i64_w, i32_w]
            rfl
          refine take_ (i := 9) (N := some 78) (v := ?_) (a' := ?_) #[true, true, true, true, true, true, true, true, true, true, false] rfl rfl (take_ofW HT_.out HW_.out (by kernel_rfl)) (fun _ _ _ h => h) (Or.inl ⟨by rfl, ?_⟩) hHeld ?_ ?_
          rotate_left
          · rintro w' ⟨s0, s1, s2, s3⟩
            go_simp
            with_reducible rfl
          rotate_left
          · simp only [Act.put, List.setIfInBounds_toArray, List.set_cons_zero, List.set_cons_succ, i64_w, i32_w]
            rfl
          refine take_ (i := 10) (N := some 79) (v := ?_) (a' := ?_) #[true, true, true, true, true, true, true, true, true, true, true] rfl rfl (take_ofW HT_.out HW_.out (by kernel_rfl)) (fun _ _ _ h => h) (Or.inl ⟨by rfl, ?_⟩) hHeld ?_ ?_
          rotate_left
          · rintro w' ⟨s0, s1, s2, s3⟩
            go_simp
            with_reducible rfl
          rotate_left
          · simp only [Act.put, List.setIfInBounds_toArray, List.set_cons_zero, List.set_cons_succ, i64_w, i32_w]
            rfl
          refine done_ (done_of HT_.out (by kernel_rfl)) ?_
          go_wp2
          go_ret2
          have hv := HV2.out
          rw [if_neg HZZ.out] at hv
          obtain ⟨rfl, rfl⟩ := Prod.mk.inj hv
          exact ⟨rfl, HB.out.trans ((HS.out.below.trans (HWD.out.mono HS.out.below.size)).mono HB.out.size)⟩
 · rw [if_neg h0] at h1
   obtain ⟨rfl, rfl⟩ := Prod.mk.inj h1
   have hb0 : (e != 0) = true := by simp [h0]
   have H0 := Aside0.mk h0
   clear h0 h1
   go_enter Try.func35, Try.ntmps35
   go_wp2_with fail
   refine (newTable_no A0 c0 l0 A1 c1 l1 e _ HR0.out HC.out.1 HR1.out HC.out.2.1 HE.out H0.out).mono ?_
   rintro e w1 ⟨rfl, hb⟩
   have HB := Aside0.mk hb
   clear hb
   go_wp2
   go_ret2
   exact ⟨rfl, HB.out⟩
end

end Go.Proofs.Ytkocigldchiifaa.H

/- The reference's Height answers as the program's does. -/
namespace Go.Proofs.Ytkocigldchiifaa.H
open Go.RowKit Go.Proofs.YtkocigldchiifaaW.PrintWords Go.Proofs.YtkocigldchiifaaW.PrintLast Go.Proofs.YtkocigldchiifaaW.PrintMore
open Go.Shelf Go.Proofs.Ytkocigldchiifaa.QA
set_option linter.unusedVariables false
set_option linter.unusedSimpArgs false

section
variable {a b : List S59}
theorem ht_l0 (hR : Rolls a b) (l : List S25) (h0 : 0 < l.length) (hl : l.length ≤ 5000) : ∀ (n i k : Nat) (ht : Int), l.length - i = n → i ≤ l.length → (∀ j, j < i → hasP a b (rd_T25 l j).f0 (rd_T25 l j).f1 = true) → 2 * n + 1 ≤ k →
  pianolaref07_Height.l0 k (a.map ev) (b.map ev) (l.map pr) ht (i : Int) = some (htFrom a b l n i ht) := by
 have ha := hR.ha
 have hb := hR.hb
 intro n
 induction n with
 | zero =>
  intro i k ht h1 h2 h3 hk
  obtain ⟨k, rfl⟩ : ∃ k', k = k' + 1 := ⟨k - 1, by omega⟩
  have e5 : wrap64 ((l.length : Int) - 1) = ((l.length - 1 : Nat) : Int) := by rw [w64' _ (by omega) (by omega)]; omega
  rw [pianolaref07_Height.l0, List.length_map, if_neg (by omega), e5, if_pos (by omega), if_pos (by omega), rd_pr, List.length_map, List.length_map, w64' ((a.length : Int) - 1) (by omega) (by omega), w64' ((b.length : Int) - 1) (by omega) (by omega), htFrom]
  show (if (!((rd_T25 l ((l.length - 1 : Nat) : Int)).f0 == (a.length : Int) - 1) || !((rd_T25 l ((l.length - 1 : Nat) : Int)).f1 == (b.length : Int) - 1)) = true then some ((0 : Int), (13 : Int)) else some (ht, 0)) = _
  by_cases c : (rd_T25 l ((l.length - 1 : Nat) : Int)).f0 = (a.length : Int) - 1 ∧ (rd_T25 l ((l.length - 1 : Nat) : Int)).f1 = (b.length : Int) - 1
  · rw [if_pos c, if_neg (by simp [c.1, c.2])]
  · rw [if_neg c, if_pos (by simp; omega)]
 | succ n ih =>
  intro i k ht h1 h2 h3 hk
  obtain ⟨k, rfl⟩ : ∃ k', k = k' + 2 := ⟨k - 2, by omega⟩
  rw [pianolaref07_Height.l0, List.length_map, if_pos (by omega), if_pos (by omega), rd_pr]
  show (pianolaref07_paired.f (a.map ev) (b.map ev) (rd_T25 l i).f0 (rd_T25 l i).f1).bind _ = _
  rw [paired_f hR]
  show (if hasP a b (rd_T25 l i).f0 (rd_T25 l i).f1 = true then _ else _) = _
  have hv : htFrom a b l (n + 1) i ht = if htAt a b l i = 0 then htFrom a b l n (i + 1) (mx ht (farD (rd_T59 a (rd_T25 l i).f0) (rd_T59 b (rd_T25 l i).f1))) else (0, htAt a b l i) := rfl
  rw [hv]
  by_cases hp : hasP a b (rd_T25 l i).f0 (rd_T25 l i).f1 = true
  · obtain ⟨p1, p2⟩ := (hasP_iff a b _ _).1 hp
    have hd := dist_f (rd_good hR.ga _ p1) (rd_good hR.gb _ p2)
    have hih := fun x => ih (i + 1) k x (by omega) (by omega) (fun j hj => by
     by_cases e : j = i
     · rw [e]; exact hp
     · exact h3 j (by omega)) (by omega)
    rw [if_pos hp]
    have hfin : (if 0 ≤ (rd_T25 l i).f0 then (if (rd_T25 l i).f0 < ((a.map ev).length : Int) then (if 0 ≤ (rd_T25 l i).f1 then (if (rd_T25 l i).f1 < ((b.map ev).length : Int) then ((pianolaref07_distance.f (rd_T79 (a.map ev) (rd_T25 l i).f0).f0 (rd_T79 (a.map ev) (rd_T25 l i).f0).f1 (rd_T79 (a.map ev) (rd_T25 l i).f0).f2 (rd_T79 (b.map ev) (rd_T25 l i).f1).f0 (rd_T79 (b.map ev) (rd_T25 l i).f1).f1 (rd_T79 (b.map ev) (rd_T25 l i).f1).f2).bind fun t => pianolaref07_Height.l0 k (a.map ev) (b.map ev) (l.map pr) (mx ht t) (wrap64 ((i : Int) + 1))) else none) else none) else none) else none) = some (htFrom a b l n (i + 1) (mx ht (farD (rd_T59 a (rd_T25 l i).f0) (rd_T59 b (rd_T25 l i).f1)))) := by
     rw [List.length_map, List.length_map, if_pos p1.1, if_pos p1.2, if_pos p2.1, if_pos p2.2, rd_ev, rd_ev]
     show (pianolaref07_distance.f (rd_T59 a (rd_T25 l i).f0).f0 (rd_T59 a (rd_T25 l i).f0).f1 (rd_T59 a (rd_T25 l i).f0).f2 (rd_T59 b (rd_T25 l i).f1).f0 (rd_T59 b (rd_T25 l i).f1).f1 (rd_T59 b (rd_T25 l i).f1).f2).bind _ = _
     rw [hd]
     simp only [Option.bind_some]
     rw [wrap_up i (by omega)]
     exact hih _
    by_cases c1 : i = 0
    · have hat : htAt a b l i = if (rd_T25 l i).f0 = 0 ∧ (rd_T25 l i).f1 = 0 then 0 else 7 := by
       unfold htAt
       rw [if_neg (by rw [hp]; simp), if_pos c1]
      rw [if_pos (show (i : Int) = 0 by omega), pianolaref07_Height.j1, hat]
      show (if (!((rd_T25 l i).f0 == 0) || !((rd_T25 l i).f1 == 0)) = true then _ else _) = _
      by_cases c : (rd_T25 l i).f0 = 0 ∧ (rd_T25 l i).f1 = 0
      · rw [if_neg (by simp [c.1, c.2]), if_pos c, if_pos rfl, if_neg (by omega)]
        exact hfin
      · rw [if_pos (by simp; omega), if_neg c, if_neg (by omega)]
    · obtain ⟨j, rfl⟩ : ∃ j, i = j + 1 := ⟨i - 1, by omega⟩
      have ej : ((j + 1 : Nat) : Int) - 1 = (j : Int) := by omega
      obtain ⟨s1, s2⟩ := (hasP_iff a b _ _).1 (h3 j (by omega))
      have hat : htAt a b l (j + 1) = if stepB (rd_T25 l j) (rd_T25 l ((j + 1 : Nat) : Int)) = false then 7 else 0 := by
       unfold htAt
       rw [if_neg (by rw [hp]; simp), if_neg (by omega), show j + 1 - 1 = j by omega]
      rw [if_neg (show ¬ ((j + 1 : Nat) : Int) = 0 by omega), pianolaref07_Height.j1, if_neg (by simp), if_pos (by omega), w64' (((j + 1 : Nat) : Int) - 1) (by omega) (by omega), ej, if_pos (by omega), List.length_map, if_pos (by omega), rd_pr, hat]
      have eq1 : (rd_T25 l ((j + 1 : Nat) : Int)).f0 = (pr (rd_T25 l ((j + 1 : Nat) : Int))).f0 := rfl
      show (pianolaref07_is.f (wrap64 ((rd_T25 l ((j + 1 : Nat) : Int)).f0 - (rd_T25 l j).f0)) 0 1).bind _ = _
      rw [w64' ((rd_T25 l ((j + 1 : Nat) : Int)).f0 - (rd_T25 l j).f0) (by omega) (by omega), is_f]
      simp only [Option.bind_some]
      unfold stepB
      cases i1 : isIn 0 ((rd_T25 l ((j + 1 : Nat) : Int)).f0 - (rd_T25 l j).f0) 1 with
      | false => rfl
      | true =>
       rw [if_pos rfl]
       show (pianolaref07_is.f (wrap64 ((rd_T25 l ((j + 1 : Nat) : Int)).f1 - (rd_T25 l j).f1)) 0 1).bind _ = _
       rw [w64' ((rd_T25 l ((j + 1 : Nat) : Int)).f1 - (rd_T25 l j).f1) (by omega) (by omega), is_f]
       simp only [Option.bind_some]
       cases i2 : isIn 0 ((rd_T25 l ((j + 1 : Nat) : Int)).f1 - (rd_T25 l j).f1) 1 with
       | false => rfl
       | true =>
        rw [if_pos rfl]
        show (if wrap64 (wrap64 ((rd_T25 l ((j + 1 : Nat) : Int)).f0 - (rd_T25 l j).f0) + wrap64 ((rd_T25 l ((j + 1 : Nat) : Int)).f1 - (rd_T25 l j).f1)) = 0 then _ else _) = _
        rw [w64' ((rd_T25 l ((j + 1 : Nat) : Int)).f0 - (rd_T25 l j).f0) (by omega) (by omega), w64' ((rd_T25 l ((j + 1 : Nat) : Int)).f1 - (rd_T25 l j).f1) (by omega) (by omega), w64' ((rd_T25 l ((j + 1 : Nat) : Int)).f0 - (rd_T25 l j).f0 + ((rd_T25 l ((j + 1 : Nat) : Int)).f1 - (rd_T25 l j).f1)) (by omega) (by omega)]
        by_cases c : (rd_T25 l ((j + 1 : Nat) : Int)).f0 - (rd_T25 l j).f0 + ((rd_T25 l ((j + 1 : Nat) : Int)).f1 - (rd_T25 l j).f1) = 0
        · rw [if_pos c, c]; rfl
        · rw [if_neg c]
          have c' : ((rd_T25 l ((j + 1 : Nat) : Int)).f0 - (rd_T25 l j).f0 + ((rd_T25 l ((j + 1 : Nat) : Int)).f1 - (rd_T25 l j).f1) == 0) = false := beq_false_of_ne c
          rw [c']
          exact hfin
  · have hp' : hasP a b (rd_T25 l i).f0 (rd_T25 l i).f1 = false := by simpa using hp
    have hvf : htAt a b l i = 8 := by
     unfold htAt
     rw [if_pos hp']
    rw [if_neg hp, hvf]
    rfl
end
theorem refHeight_f (a b : List S59) (l : List S25) (k : Nat) (hl : l.length ≤ 5000) (hk : 2 * l.length + 40 ≤ k) : pianolaref07_Height.f k (a.map ev) (b.map ev) (l.map pr) = align_Height.f a b l := by
 unfold pianolaref07_Height.f align_Height.f
 rw [refCheck_f a b k (by omega)]
 cases hc : align_Check.f a b with
 | none => rfl
 | some e =>
  show (if e = 0 then _ else _) = some (if e = 0 then _ else _)
  by_cases he : e = 0
  · subst he
    have hR := rolls_of hc
    rw [if_pos rfl, if_pos rfl, List.length_map]
    unfold htF
    by_cases h0 : l.length = 0
    · rw [if_pos (by omega), if_pos h0]
    · rw [if_neg (by omega), if_neg h0]
      exact ht_l0 hR l (by omega) hl l.length 0 k 0 (by omega) (by omega) (fun j hj => by omega) (by omega)
  · rw [if_neg he, if_neg he]

end Go.Proofs.Ytkocigldchiifaa.H

/- Walks counted without a limit, and forwards. -/
namespace Go.Proofs.Ytkocigldchiifaa.H
open Go.RowKit Go.Proofs.YtkocigldchiifaaW.PrintWords Go.Proofs.YtkocigldchiifaaW.PrintLast Go.Proofs.YtkocigldchiifaaW.PrintMore
open Go.Shelf Go.Proofs.Ytkocigldchiifaa.QA
set_option linter.unusedVariables false
set_option linter.unusedSimpArgs false

def uH (a b : List S59) (h : Int) (u v : Nat) (l : List Int) : Int := if h < dEnd a b u v then 0 else l.foldl (fun m x => m + x) (if u = 0 ∧ v = 0 then 1 else 0)
/-- How many walks there are, without a limit. -/
def cU (a b : List S59) (h i k : Int) : Int := dpI (uH a b h) a b i k
theorem cU_eq (a b : List S59) (h i k : Int) (hi : 0 ≤ i ∧ i < a.length) (hk : 0 ≤ k ∧ k < b.length) :
  cU a b h i k = if h < farD (rd_T59 a i) (rd_T59 b k) then 0 else (movesOf a b i k).foldl (fun m q => m + cU a b h q.f0 q.f1) (if i = (a.length : Int) - 1 ∧ k = (b.length : Int) - 1 then 1 else 0) := by
 unfold cU
 rw [dp_eq _ a b i k hi hk]
 unfold uH
 rw [dEnd_eq a b i k hi hk, List.foldl_map]
 congr 2
 by_cases h : i = (a.length : Int) - 1 ∧ k = (b.length : Int) - 1
 · rw [if_pos h, if_pos (by omega)]
 · rw [if_neg h, if_neg (by omega)]
theorem cU_cnt (a b : List S59) (h : Int) : ∀ (n : Nat) (i k : Int), (0 ≤ i ∧ i < a.length) → (0 ≤ k ∧ k < b.length) → ((a.length : Int) - i) + ((b.length : Int) - k) ≤ n → 0 ≤ cU a b h i k ∧ cntI a b h i k = min (cU a b h i k) 4503599627370496 := by
 intro n
 induction n with
 | zero => intro i k hi hk h; omega
 | succ n ih =>
  intro i k hi hk hn
  rw [cU_eq a b h i k hi hk, cnt_eq a b h i k hi hk]
  by_cases hd : h < farD (rd_T59 a i) (rd_T59 b k)
  · rw [if_pos hd, if_pos hd]; omega
  · rw [if_neg hd, if_neg hd, moves_eq a b i k hi hk]
    have b1 : i + 1 < a.length ∧ k + 1 < b.length → 0 ≤ cU a b h (i + 1) (k + 1) ∧ cntI a b h (i + 1) (k + 1) = min (cU a b h (i + 1) (k + 1)) 4503599627370496 := fun hh => ih (i + 1) (k + 1) (by omega) (by omega) (by omega)
    have b2 : i + 1 < a.length → 0 ≤ cU a b h (i + 1) k ∧ cntI a b h (i + 1) k = min (cU a b h (i + 1) k) 4503599627370496 := fun hh => ih (i + 1) k (by omega) (by omega) (by omega)
    have b3 : k + 1 < b.length → 0 ≤ cU a b h i (k + 1) ∧ cntI a b h i (k + 1) = min (cU a b h i (k + 1)) 4503599627370496 := fun hh => ih i (k + 1) (by omega) (by omega) (by omega)
    generalize hz : (if i = (a.length : Int) - 1 ∧ k = (b.length : Int) - 1 then (1 : Int) else 0) = z
    have hz1 : 0 ≤ z ∧ z ≤ 1 := by rw [← hz]; split <;> omega
    by_cases g1 : i + 1 < a.length <;> by_cases g2 : k + 1 < b.length <;> simp only [g1, g2, and_self, and_true, true_and, and_false, false_and, if_true, if_false, List.nil_append, List.append_nil, List.foldl_cons, List.foldl_nil, List.cons_append, forall_const] at b1 b2 b3 ⊢ <;> omega
def uX (a b : List S59) (h i k : Int) : Int := if hasP a b i k = true then cU a b h i k else 0
theorem uX_eq {a b : List S59} (h : Int) {i k : Int} (hp : hasP a b i k = true) :
  uX a b h i k = if h < dist a b i k then 0 else (if i = (a.length : Int) - 1 ∧ k = (b.length : Int) - 1 then 1 else 0) + uX a b h (i + 1) (k + 1) + uX a b h (i + 1) k + uX a b h i (k + 1) := by
 obtain ⟨h1, h2⟩ := (hasP_iff a b i k).1 hp
 show (if hasP a b i k = true then cU a b h i k else 0) = _
 rw [if_pos hp, cU_eq a b h i k h1 h2]
 show (if h < dist a b i k then _ else _) = _
 by_cases hd : h < dist a b i k
 · rw [if_pos hd, if_pos hd]
 · rw [if_neg hd, if_neg hd]
   have e1 : hasP a b (i + 1) (k + 1) = true ↔ (i + 1 < a.length ∧ k + 1 < b.length) := by rw [hasP_iff]; omega
   have e2 : hasP a b (i + 1) k = true ↔ (i + 1 < a.length) := by rw [hasP_iff]; omega
   have e3 : hasP a b i (k + 1) = true ↔ (k + 1 < b.length) := by rw [hasP_iff]; omega
   generalize hz : (if i = (a.length : Int) - 1 ∧ k = (b.length : Int) - 1 then (1 : Int) else 0) = z
   rw [moves_eq a b i k h1 h2]
   unfold uX
   simp only [e1, e2, e3]
   by_cases g1 : i + 1 < a.length <;> by_cases g2 : k + 1 < b.length <;> simp only [g1, g2, and_self, and_true, true_and, and_false, false_and, if_true, if_false, List.nil_append, List.append_nil, List.foldl_cons, List.foldl_nil, List.cons_append] <;> omega
theorem cU_rev {a b : List S59} (hR : Rolls a b) (h : Int) : cU a.reverse b.reverse h 0 0 = cU a b h 0 0 := by
 have hp0 := has0 hR
 have key := count_two (fun i k => uX a.reverse b.reverse h ((a.length : Int) - 1 - i) ((b.length : Int) - 1 - k)) (fun i k => uX a b h i k) (fun i k => ¬ h < dist a b i k) a.length b.length (by have := hR.ha; omega) (by have := hR.hb; omega)
  (fun i k hno => by
   show (if _ then _ else _) = _
   rw [if_neg (fun hh => hno ((hasP_iff a b i k).1 (has_rev.1 hh)))])
  (fun i k hno => by
   show (if _ then _ else _) = _
   rw [if_neg (fun hh => hno ((hasP_iff a b i k).1 hh))])
  (fun i k h1 h2 h3 h4 => by
   have hp : hasP a b i k = true := (hasP_iff a b i k).2 ⟨⟨h1, h2⟩, ⟨h3, h4⟩⟩
   by_cases hd : h < dist a b i k
   · refine .inr ⟨fun hn => hn hd, ?_⟩
     show uX a.reverse b.reverse h _ _ = 0
     rw [uX_eq h (has_rev.2 hp), dist_rev hp, if_pos hd]
   · refine .inl ⟨hd, ?_⟩
     show uX a.reverse b.reverse h _ _ = _
     rw [uX_eq h (has_rev.2 hp), dist_rev hp, if_neg hd, List.length_reverse, List.length_reverse]
     rw [show (a.length : Int) - 1 - (i - 1) = (a.length : Int) - 1 - i + 1 by omega, show (b.length : Int) - 1 - (k - 1) = (b.length : Int) - 1 - k + 1 by omega]
     congr 3
     by_cases hz : i = 0 ∧ k = 0
     · rw [if_pos hz, if_pos (by omega)]
     · rw [if_neg hz, if_neg (by omega)])
  (fun i k h1 h2 h3 h4 => by
   have hp : hasP a b i k = true := (hasP_iff a b i k).2 ⟨⟨h1, h2⟩, ⟨h3, h4⟩⟩
   by_cases hd : h < dist a b i k
   · refine .inr ⟨fun hn => hn hd, ?_⟩
     show uX a b h _ _ = 0
     rw [uX_eq h hp, if_pos hd]
   · refine .inl ⟨hd, ?_⟩
     show uX a b h _ _ = _
     rw [uX_eq h hp, if_neg hd])
 have key' : uX a.reverse b.reverse h ((a.length : Int) - 1 - ((a.length : Int) - 1)) ((b.length : Int) - 1 - ((b.length : Int) - 1)) = uX a b h 0 0 := key
 rw [show (a.length : Int) - 1 - ((a.length : Int) - 1) = 0 by omega, show (b.length : Int) - 1 - ((b.length : Int) - 1) = 0 by omega] at key'
 unfold uX at key'
 rw [if_pos hp0, if_pos (has0 hR.rev)] at key'
 exact key'
theorem cnt_rev_all {a b : List S59} (hR : Rolls a b) (h : Int) : cntI a.reverse b.reverse h 0 0 = cntI a b h 0 0 := by
 have h1 := hR.ha
 have h2 := hR.hb
 have h3 := hR.rev.ha
 have h4 := hR.rev.hb
 rw [(cU_cnt a.reverse b.reverse h (a.reverse.length + b.reverse.length) 0 0 (by omega) (by omega) (by omega)).2, (cU_cnt a b h (a.length + b.length) 0 0 (by omega) (by omega) (by omega)).2, cU_rev hR]
/-- How many walks lead to a pair. -/
def fw (a b : List S59) (h : Int) (i k : Nat) : Int := cntI a.reverse b.reverse h ((a.length : Int) - 1 - i) ((b.length : Int) - 1 - k)
theorem fw_in {a b : List S59} (h : Int) {i k : Nat} (hi : i < a.length) (hk : k < b.length) : 0 ≤ fw a b h i k ∧ fw a b h i k ≤ 4503599627370496 := by
 unfold fw
 refine cnt_in a.reverse b.reverse h _ _ ?_ ?_ (a.length + b.length) ?_ <;> (simp only [List.length_reverse]; omega)
theorem fw_last {a b : List S59} (hR : Rolls a b) (h : Int) : fw a b h (a.length - 1) (b.length - 1) = cntI a b h 0 0 := by
 have h1 := hR.ha
 have h2 := hR.hb
 unfold fw
 rw [show (a.length : Int) - 1 - ((a.length - 1 : Nat) : Int) = 0 by omega, show (b.length : Int) - 1 - ((b.length - 1 : Nat) : Int) = 0 by omega]
 exact cnt_rev_all hR h
theorem fw_eq {a b : List S59} (h : Int) {i k : Nat} (hi : i < a.length) (hk : k < b.length) :
  fw a b h i k = mn (if h < farD (rd_T59 a i) (rd_T59 b k) then 0 else (if i = 0 ∧ k = 0 then 1 else 0) + (if 0 < i then fw a b h (i - 1) k else 0) + (if 0 < k then fw a b h i (k - 1) else 0) + (if 0 < i ∧ 0 < k then fw a b h (i - 1) (k - 1) else 0)) 4503599627370496 := by
 have hx : 0 ≤ (a.length : Int) - 1 - i ∧ (a.length : Int) - 1 - i < a.reverse.length := by rw [List.length_reverse]; omega
 have hy : 0 ≤ (b.length : Int) - 1 - k ∧ (b.length : Int) - 1 - k < b.reverse.length := by rw [List.length_reverse]; omega
 have e0 : fw a b h i k = cntI a.reverse b.reverse h ((a.length : Int) - 1 - i) ((b.length : Int) - 1 - k) := rfl
 rw [mn_min, e0, cnt_eq a.reverse b.reverse h _ _ hx hy, rd_rev a i (by omega), rd_rev b k (by omega)]
 by_cases hd : h < farD (rd_T59 a i) (rd_T59 b k)
 · rw [if_pos hd, if_pos hd]; rfl
 · rw [if_neg hd, if_neg hd, moves_eq a.reverse b.reverse _ _ hx hy, List.length_reverse, List.length_reverse]
   have b1 : 0 < i → fw a b h (i - 1) k = cntI a.reverse b.reverse h ((a.length : Int) - 1 - i + 1) ((b.length : Int) - 1 - k) := fun hh => by unfold fw; congr 1; omega
   have b2 : 0 < k → fw a b h i (k - 1) = cntI a.reverse b.reverse h ((a.length : Int) - 1 - i) ((b.length : Int) - 1 - k + 1) := fun hh => by unfold fw; congr 1; omega
   have b3 : 0 < i → 0 < k → fw a b h (i - 1) (k - 1) = cntI a.reverse b.reverse h ((a.length : Int) - 1 - i + 1) ((b.length : Int) - 1 - k + 1) := fun h1 h2 => by unfold fw; congr 1 <;> omega
   have g1 : (a.length : Int) - 1 - i + 1 < a.length ↔ 0 < i := by omega
   have g2 : (b.length : Int) - 1 - k + 1 < b.length ↔ 0 < k := by omega
   have g3 : ((a.length : Int) - 1 - i = (a.length : Int) - 1 ∧ (b.length : Int) - 1 - k = (b.length : Int) - 1) ↔ (i = 0 ∧ k = 0) := by omega
   simp only [g1, g2, g3]
   congr 1
   by_cases c1 : 0 < i <;> by_cases c2 : 0 < k <;> simp only [c1, c2, and_self, and_true, true_and, and_false, false_and, if_true, if_false, List.nil_append, List.append_nil, List.foldl_cons, List.foldl_nil, List.cons_append, forall_const, false_implies] at b1 b2 b3 ⊢
   · rw [b1, b2, b3]; omega
   · rw [b1]; omega
   · rw [b2]; omega
   · omega

end Go.Proofs.Ytkocigldchiifaa.H

/- The reference's Walks. -/
namespace Go.Proofs.Ytkocigldchiifaa.H
open Go.RowKit Go.Proofs.YtkocigldchiifaaW.PrintWords Go.Proofs.YtkocigldchiifaaW.PrintLast Go.Proofs.YtkocigldchiifaaW.PrintMore
open Go.Shelf Go.Proofs.Ytkocigldchiifaa.QA
set_option linter.unusedVariables false
set_option linter.unusedSimpArgs false

section
attribute [local go_sem] max2_mx min2_mn max_two min_two
def wk23_T : Bool × List (List Nat × List Nat) := (true, [([], []), ([], []), ([0, 1], [0, 1]), ([2], [2]), ([], []), ([], []), ([4, 5], [4, 5]), ([6], [6]), ([3, 7], [3, 7]), ([], []), ([8, 9], [8, 9])])
def wk23_B : List Nat := [0, 0, 3, 7, 0, 0, 48, 112, 255, 0, 1023]
theorem wk23_tab : rtab .any (opsOf Try.f37 23) = wk23_T := by kernel_rfl
theorem wk23_bits : waitsOk wk23_T.2 wk23_B = true := by kernel_rfl
theorem meas_up (m k : Nat) (h : k < m) : m - (((k + 1 : Nat) : Int)).toNat < m - ((k : Int)).toNat := by omega
set_option maxRecDepth 100000 in
set_option maxHeartbeats 8000000 in
theorem walksR_ok (A0 : Option Addr) (c0 : Nat) (a : List S59) (A1 : Option Addr) (c1 : Nat) (b : List S59) (n m : Nat) (hh : Int) (w : World) (hn : n = a.length) (hm : m = b.length) (hr0 : Kd.C k79 w A0 n (a.map ev)) (hc0 : n ≤ c0) (hr1 : Kd.C k79 w A1 m (b.map ev)) (hc1 : m ≤ c1) (he : align_Check.f a b = some 0) (h0 : ¬ hh < 0) :
  Calls Try.prog 37 #[.slice A0 n c0, .slice A1 m c1, .int .i64 hh] w fun e w' => e = .returned (.tuple #[.int .i64 (cntI a b hh 0 0), .int .i64 0]) ∧ Below w.heap.size w w' := by
 have hu79 := Try.underlying79
 have hu59 := Try.underlying59
 have hR := rolls_of he
 have HN := Aside0.mk (show 1 ≤ n ∧ n ≤ 30 by have := hR.ha; omega)
 have HM0 := Aside0.mk (show 1 ≤ m ∧ m ≤ 30 by have := hR.hb; omega)
 have mk1 : ∀ W : World, (Instr.makeSlice 89 (.int .i64 (n : Int)) (.int .i64 (n : Int))).run Try.prog W = .ok (.slice (some ⟨W.heap.size, 0, none⟩) n n) (W.alloc (.cells (madeCells #[.slice none 0 0] n) 63)) := print_make_of 89 63 (.slice none 0 0) 24 Try.underlying89 info63 rfl (by decide) n (by have := HN.out; omega)
 have mk2 : ∀ W : World, (Instr.makeSlice 63 (.int .i64 (m : Int)) (.int .i64 (m : Int))).run Try.prog W = .ok (.slice (some ⟨W.heap.size, 0, none⟩) m m) (W.alloc (.cells (madeCells #[.int .i64 0] m) 3)) := print_make 63 3 .i64 8 Try.underlying63 info3 (by decide) m (by have := HM0.out; omega)
 obtain ⟨N1, hN1⟩ : ∃ N1, N1 = n - 1 := ⟨_, rfl⟩
 obtain ⟨M1, hM1⟩ : ∃ M1, M1 = m - 1 := ⟨_, rfl⟩
 have e1 : wrap64 ((n : Int) - 1) = (N1 : Int) := by rw [w64' _ (by have := HN.out; omega) (by have := HN.out; omega)]; have := HN.out; omega
 have e2 : wrap64 ((m : Int) - 1) = (M1 : Int) := by rw [w64' _ (by have := HM0.out; omega) (by have := HM0.out; omega)]; have := HM0.out; omega
 have HNM := Aside0.mk (And.intro hN1 hM1)
 have HCK := Aside0.mk (show pianolaref07_Check.f 40 (a.map ev) (b.map ev) = some 0 by rw [refCheck_f a b 40 (by omega), he])
 have HE1 := Aside0.mk (And.intro hn hm)
 have HR := Aside0.mk (And.intro hr0 hr1)
 have HRo := Aside0.mk hR
 have HC := Aside0.mk (And.intro hc0 hc1)
 have z0 : decide (hh < 0) = false := decide_eq_false h0
 have hla : (a.map ev).length = n := by rw [List.length_map, hn]
 have hlb : (b.map ev).length = m := by rw [List.length_map, hm]
 have hcall := fun W (hb : Below w.heap.size w W) => pianolaref07_Check.calls 40 A0 c0 (a.map ev) A1 c1 (b.map ev) 0 W (by rw [hla]; exact Kd.C_below HR.out.1 hb) (by rw [hla]; exact HC.out.1) (by rw [hlb]; exact Kd.C_below HR.out.2 hb) (by rw [hlb]; exact HC.out.2) HCK.out
 rw [hla, hlb] at hcall
 have HCALL := Aside0.mk hcall
 clear hn hm hr0 hr1 hc0 hc1 hR he h0 hla hlb hcall hN1 hM1
 go_enter Try.func37, Try.ntmps37
 go_wp2_with (go_at_call 25; refine (HCALL.out _ (Below.refl _ _)).mono ?_; rintro e w0 ⟨rfl, hd0⟩; have HB0 := Aside0.mk hd0.below; clear hd0)
 have HST := Aside0.mk (Mt.start w0 w.heap.size n m 63 3 (fun _ => 0) (fun _ _ => .bool false) HB0.out.size)
 have HBS := Aside0.mk (HB0.out.alloc HB0.out.size (.cells (madeCells #[.slice none 0 0] n) 63))
 obtain ⟨g, hg⟩ : ∃ g, g = w0.heap.size := ⟨_, rfl⟩
 obtain ⟨w1, hw1⟩ : ∃ W : World, W = w0.alloc (.cells (madeCells #[.slice none 0 0] n) 63) := ⟨_, rfl⟩
 replace HST := Aside0.mk (show Mt w1 w.heap.size g n m 63 3 (fun _ => False) (fun _ => 0) (fun _ _ => .bool false) by rw [hw1, hg]; exact HST.out)
 replace HBS := Aside0.mk (show Below w.heap.size w w1 by rw [hw1]; exact HBS.out)
 rw [← hw1, ← hg]
 clear hw1 HB0 z0
 have HG := Aside0.mk hg
 clear hg
 go_loopw [10, 11, 12] (fun s10 s11 s12 wr => ∃ (i : Nat) (B : Nat → Nat) (V : Nat → Nat → Value), s10 = .int .i64 i ∧ Aside0 (i ≤ n) ∧ Aside0 (Mt wr w.heap.size g n m 63 3 (fun r => r < i) B V) ∧ Aside0 (∀ r k : Nat, r < i → r < n → k < m → V r k = .int .i64 (fw a b hh r k)) ∧ Aside0 (Below w.heap.size w wr)) (fun s10 _ _ _ => n - (intOf s10).toNat)
 case atStart => exact ⟨0, fun _ => 0, fun _ _ => .bool false, rfl, ⟨Nat.zero_le _⟩, ⟨HST.out.congr (fun r hr => ⟨fun h => by omega, fun h => h.elim⟩) (fun r k _ h => h.elim)⟩, ⟨fun r k h1 h2 => by omega⟩, HBS⟩
 case round =>
  clear HST HBS
  obtain ⟨i, B, V, rfl, HJ, HM, HV, HB⟩ := hrel
  by_cases hj : i < n
  · have n1 : i < n := hj
    have hd : decide ((i : Int) < (n : Int)) = true := decide_eq_true (by omega)
    clear hj
    have hba := below_alloc (Below.refl wr.heap.size wr) (.cells (madeCells #[.int .i64 0] m) 3)
    have hnew := blk_new wr (.cells (madeCells #[.int .i64 0] m) 3)
    have HM1 := Aside0.mk (HM.out.below hba)
    have HB1 := Aside0.mk (HB.out.alloc HB.out.size (.cells (madeCells #[.int .i64 0] m) 3))
    have k0 := HM1.out.nil0 i n1 (by omega)
    have k1 := HM1.out.fz0 i
    have HNW := Aside0.mk hnew
    have HLG := Aside0.mk HM.out.lt
    have HLB := Aside0.mk (show ∀ r, r < n → r < i → B r ≠ wr.heap.size from fun r hr hd e => by
     obtain ⟨T, _, h2, _⟩ := HM.out.row r hr hd
     have := blk_lt h2
     omega)
    have HSZ := Aside0.mk HB.out.size
    clear hba hnew HM HB
    go_wp2
    have HM2 := Aside0.mk (HM1.out.new i wr.heap.size (.int .i64 0) n1 (by omega) HSZ.out (by have := HLG.out; omega) (fun r hr hd => HLB.out r hr hd) HNW.out)
    have HB2 := Aside0.mk (below_set (j := i) (v := .slice (some ⟨wr.heap.size, 0, none⟩) m m) HB1.out HM1.out.gb)
    clear k0 k1 HM1 HB1 HNW HLG HLB
    generalize ((wr.alloc (.cells (madeCells #[.int .i64 0] m) 3)).setCell ⟨g, i, none⟩ (.slice (some ⟨wr.heap.size, 0, none⟩) m m)) = w2 at HM2 HB2 ⊢
    obtain ⟨B', hB'⟩ : ∃ B' : Nat → Nat, B' = fun r' => if r' = i then wr.heap.size else B r' := ⟨_, rfl⟩
    rw [← hB'] at HM2
    have HV2 := Aside0.mk (show ∀ r k : Nat, r < i → r < n → k < m → (if r = i then Value.int .i64 0 else V r k) = .int .i64 (fw a b hh r k) from fun r k h1 h2 h3 => by rw [if_neg (by omega)]; exact HV.out r k h1 h2 h3)
    obtain ⟨V', hV'⟩ : ∃ V' : Nat → Nat → Value, V' = fun r' k' => if r' = i then .int .i64 0 else V r' k' := ⟨_, rfl⟩
    replace HM2 := Aside0.mk (show Mt w2 w.heap.size g n m 63 3 (fun r => r < i + 1) B' V' by rw [hV']; exact HM2.out.congr (fun r hr => ⟨fun h => by omega, fun h => by omega⟩) (fun _ _ _ _ _ => rfl))
    replace HV2 := Aside0.mk (show ∀ r k : Nat, r < i → r < n → k < m → V' r k = .int .i64 (fw a b hh r k) by rw [hV']; exact HV2.out)
    clear HV hB' hV' hd HSZ
    go_loopw [11, 12] (fun s11 s12 wi => ∃ (k : Nat) (V : Nat → Nat → Value), s11 = .int .i64 k ∧ Aside0 (k ≤ m) ∧ Aside0 (Mt wi w.heap.size g n m 63 3 (fun r => r < i + 1) B' V) ∧ Aside0 ((∀ r k : Nat, r < i → r < n → k < m → V r k = .int .i64 (fw a b hh r k)) ∧ (∀ k' : Nat, k' < k → V i k' = .int .i64 (fw a b hh i k'))) ∧ Aside0 (Below w.heap.size w wi)) (fun s11 _ _ => m - (intOf s11).toNat)
    case atStart => exact ⟨0, V', rfl, ⟨Nat.zero_le _⟩, HM2, ⟨HV2.out, fun k h1 => by omega⟩, HB2⟩
    case round =>
     clear HM2 HB2 HV2
     clear V' V B w2
     obtain ⟨k, V, rfl, HK, HM, HV, HB⟩ := hrel
     by_cases hj : k < m
     · have n2 : k < m := hj
       have hd : decide ((k : Int) < (m : Int)) = true := decide_eq_true (by omega)
       clear hj
       have hki : k ≤ 1000000 := by have := HK.out; have := HM0.out; omega
       have hii : i ≤ 1000000 := by have := HJ.out; have := HN.out; omega
       have HMi := Aside0.mk (And.intro hki hii)
       clear hki hii
       by_cases c1 : 0 < i <;> by_cases c2 : 0 < k
       · obtain ⟨i', hi'⟩ : ∃ i', i' = i - 1 := ⟨_, rfl⟩
         have e3 : wrap64 ((i : Int) - 1) = (i' : Int) := by rw [wrap_down i HMi.out.2]; omega
         have n3 : i' < n := by omega
         have d1 : decide ((i : Int) > 0) = true := decide_eq_true (by omega)
         have d1' : decide ((0 : Int) < (i : Int)) = true := decide_eq_true (by omega)
         have q1 : ¬ ((i : Int) = 0) := by omega
         have q2 : ((i : Int) == 0) = false := beq_false_of_ne q1
         obtain ⟨k', hk'⟩ : ∃ k', k' = k - 1 := ⟨_, rfl⟩
         have e4 : wrap64 ((k : Int) - 1) = (k' : Int) := by rw [wrap_down k HMi.out.1]; omega
         have n4 : k' < m := by omega
         have d2 : decide ((k : Int) > 0) = true := decide_eq_true (by omega)
         have d2' : decide ((0 : Int) < (k : Int)) = true := decide_eq_true (by omega)
         have q4 : ¬ ((k : Int) = 0) := by omega
         have q5 : ((k : Int) == 0) = false := beq_false_of_ne q4
         have k1 := HM.out.cell0 i' n3 (by omega)
         have k2 := HM.out.cell1 i' k n3 (by omega) n2
         rw [HV.out.1 i' k (by omega) n3 n2] at k2
         have b1 := fw_in (a := a) (b := b) hh (i := i') (k := k) (by rw [← HE1.out.1]; exact n3) (by rw [← HE1.out.2]; exact n2)
         have k3 := HM.out.cell0 i n1 (by omega)
         have k4 := HM.out.cell1 i k' n1 (by omega) n4
         rw [HV.out.2 k' (by omega)] at k4
         have b2 := fw_in (a := a) (b := b) hh (i := i) (k := k') (by rw [← HE1.out.1]; exact n1) (by rw [← HE1.out.2]; exact n4)
         have k5 := HM.out.cell1 i' k' n3 (by omega) n4
         rw [HV.out.1 i' k' (by omega) n3 n4] at k5
         have b3 := fw_in (a := a) (b := b) hh (i := i') (k := k') (by rw [← HE1.out.1]; exact n3) (by rw [← HE1.out.2]; exact n4)
         have hru := fw_eq (a := a) (b := b) hh (i := i) (k := k) (by rw [← HE1.out.1]; exact n1) (by rw [← HE1.out.2]; exact n2)
         rw [if_neg (show ¬ (i = 0 ∧ k = 0) by omega), if_pos (show 0 < i by omega), ← hi', if_pos (show 0 < k by omega), ← hk', if_pos (show 0 < i ∧ 0 < k by omega)] at hru
         generalize fw a b hh i' k = v1 at k2 hru b1
         generalize fw a b hh i k' = v2 at k4 hru b2
         generalize fw a b hh i' k' = v3 at k5 hru b3
         have s_v1 : wrap64 v1 = v1 := w64' _ (by omega) (by omega)
         have z_v1 : wrap64 (0 + v1) = v1 := by rw [Int.zero_add]; exact s_v1
         have s_v2 : wrap64 (v1 + v2) = v1 + v2 := w64' _ (by omega) (by omega)
         have s_v3 : wrap64 (v1 + v2 + v3) = v1 + v2 + v3 := w64' _ (by omega) (by omega)
         have hru2 : fw a b hh i k = mn (if hh < farD (rd_T59 a i) (rd_T59 b k) then 0 else (v1 + v2 + v3)) 4503599627370496 := by rw [hru]; congr 2 <;> omega
         have HRX := Aside0.mk hru2
         have HQ := Aside0.mk (And.intro HMi.out.1 HMi.out.2)
         clear hru hru2 hi' b1 hk' b2 b3
         go_upto_region 23 with fail
         have HMB := Aside0.mk (HM.out.below (below_drew (Below.refl wr.heap.size wr)))
         have HBB := Aside0.mk (below_drew1 HB.out)
         have hka := Kd.C_below HR.out.1 HBB.out
         have hkb := Kd.C_below HR.out.2 HBB.out
         obtain ⟨ax, rfl, t0, t1, t2⟩ := at_T79 hka (i : Int) (Int.natCast_nonneg i) (Int.ofNat_lt.2 n1)
         obtain ⟨ay, rfl, u0, u1, u2⟩ := at_T79 hkb (k : Int) (Int.natCast_nonneg k) (Int.ofNat_lt.2 n2)
         rw [rd_ev, Int.toNat_natCast] at t0 t1 t2 u0 u1 u2
         have hgx := rd_good HRo.out.ga (i : Int) ⟨Int.natCast_nonneg i, by rw [← HE1.out.1]; exact Int.ofNat_lt.2 n1⟩
         have hgy := rd_good HRo.out.gb (k : Int) ⟨Int.natCast_nonneg k, by rw [← HE1.out.2]; exact Int.ofNat_lt.2 n2⟩
         have HDI := Aside0.mk (dist_f hgx hgy)
         have HRU := Aside0.mk (HRX.out)
         clear hka hkb hgx hgy
         obtain ⟨d, hd9⟩ : ∃ d, farD (rd_T59 a i) (rd_T59 b k) = d := ⟨_, rfl⟩
         rw [hd9] at HDI HRU
         clear hd9
         have HKQ := Aside0.mk (And.intro t0 (And.intro t1 (And.intro t2 (And.intro u0 (And.intro u1 u2)))))
         clear t0 t1 t2 u0 u1 u2
         have HVK := Aside0.mk HV.out
         simp only [ev] at HKQ HDI
         generalize (rd_T59 a i).f0 = x0 at HKQ HDI
         generalize (rd_T59 a i).f1 = x1 at HKQ HDI
         generalize (rd_T59 a i).f2 = x2 at HKQ HDI
         generalize (rd_T59 b k).f0 = y0 at HKQ HDI
         generalize (rd_T59 b k).f1 = y1 at HKQ HDI
         generalize (rd_T59 b k).f2 = y2 at HKQ HDI
         refine start_ (n := 11) (S := fun w' => w'.cell? (ax.add (i * 3)) = some (.int .i64 x0) ∧ w'.cell? ⟨(ax.add (i * 3)).block, (ax.add (i * 3)).off + 1, none⟩ = some (.int .i64 x1) ∧ w'.cell? ⟨(ax.add (i * 3)).block, (ax.add (i * 3)).off + 2, none⟩ = some (.int .i64 x2) ∧ w'.cell? (ay.add (k * 3)) = some (.int .i64 y0) ∧ w'.cell? ⟨(ay.add (k * 3)).block, (ay.add (k * 3)).off + 1, none⟩ = some (.int .i64 y1) ∧ w'.cell? ⟨(ay.add (k * 3)).block, (ay.add (k * 3)).off + 2, none⟩ = some (.int .i64 y2)) (ds := []) #[false, false, false, false, false, false, false, false, false, false, false] (by kernel_rfl) rfl rfl HKQ.out (fun hHeld => ?_)
         refine with_tabW wk23_tab wk23_bits (fun HT_ HW_ => ?_)
         generalize wr.drew = wB at HMB HBB HKQ hHeld ⊢
         refine take_ (i := 0) (N := some 89) (v := ?_) (a' := ?_) #[true, false, false, false, false, false, false, false, false, false, false] rfl rfl (take_ofW HT_.out HW_.out (by kernel_rfl)) (fun _ _ _ h => h) (Or.inl ⟨by rfl, ?_⟩) hHeld ?_ ?_
         rotate_left
         · rintro w' ⟨s0, s1, s2, s3, s4, s5⟩
           go_simp
           with_reducible rfl
         rotate_left
         · simp only [Act.put, List.setIfInBounds_toArray, List.set_cons_zero, List.set_cons_succ, i64_w, i32_w]
           rfl
         refine take_ (i := 1) (N := some 90) (v := ?_) (a' := ?_) #[true, true, false, false, false, false, false, false, false, false, false] rfl rfl (take_ofW HT_.out HW_.out (by kernel_rfl)) (fun _ _ _ h => h) (Or.inl ⟨by rfl, ?_⟩) hHeld ?_ ?_
         rotate_left
         · rintro w' ⟨s0, s1, s2, s3, s4, s5⟩
           go_simp
           with_reducible rfl
         rotate_left
         · simp only [Act.put, List.setIfInBounds_toArray, List.set_cons_zero, List.set_cons_succ, i64_w, i32_w]
           rfl
         refine take_ (i := 2) (N := some 91) (v := ?_) (a' := ?_) #[true, true, true, false, false, false, false, false, false, false, false] rfl rfl (take_ofW HT_.out HW_.out (by kernel_rfl)) (fun _ _ _ h => h) (Or.inl ⟨by rfl, ?_⟩) hHeld ?_ ?_
         rotate_left
         · rintro w' ⟨s0, s1, s2, s3, s4, s5⟩
           go_simp
           with_reducible rfl
         rotate_left
         · simp only [Act.put, List.setIfInBounds_toArray, List.set_cons_zero, List.set_cons_succ, i64_w, i32_w]
           rfl
         refine take_ (i := 3) (N := some 92) (v := ?_) (a' := ?_) #[true, true, true, true, false, false, false, false, false, false, false] rfl rfl (take_ofW HT_.out HW_.out (by kernel_rfl)) (fun _ _ _ h => h) (Or.inl ⟨by rfl, ?_⟩) hHeld ?_ ?_
         rotate_left
         · rintro w' ⟨s0, s1, s2, s3, s4, s5⟩
           go_simp
           with_reducible rfl
         rotate_left
         · simp only [Act.put, List.setIfInBounds_toArray, List.set_cons_zero, List.set_cons_succ, i64_w, i32_w]
           rfl
         refine take_ (i := 4) (N := some 93) (v := ?_) (a' := ?_) #[true, true, true, true, true, false, false, false, false, false, false] rfl rfl (take_ofW HT_.out HW_.out (by kernel_rfl)) (fun _ _ _ h => h) (Or.inl ⟨by rfl, ?_⟩) hHeld ?_ ?_
         rotate_left
         · rintro w' ⟨s0, s1, s2, s3, s4, s5⟩
           go_simp
           with_reducible rfl
         rotate_left
         · simp only [Act.put, List.setIfInBounds_toArray, List.set_cons_zero, List.set_cons_succ, i64_w, i32_w]
           rfl
         refine take_ (i := 5) (N := some 94) (v := ?_) (a' := ?_) #[true, true, true, true, true, true, false, false, false, false, false] rfl rfl (take_ofW HT_.out HW_.out (by kernel_rfl)) (fun _ _ _ h => h) (Or.inl ⟨by rfl, ?_⟩) hHeld ?_ ?_
         rotate_left
         · rintro w' ⟨s0, s1, s2, s3, s4, s5⟩
           go_simp
           with_reducible rfl
         rotate_left
         · simp only [Act.put, List.setIfInBounds_toArray, List.set_cons_zero, List.set_cons_succ, i64_w, i32_w]
           rfl
         refine take_ (i := 6) (N := some 95) (v := ?_) (a' := ?_) #[true, true, true, true, true, true, true, false, false, false, false] rfl rfl (take_ofW HT_.out HW_.out (by kernel_rfl)) (fun _ _ _ h => h) (Or.inl ⟨by rfl, ?_⟩) hHeld ?_ ?_
         rotate_left
         · rintro w' ⟨s0, s1, s2, s3, s4, s5⟩
           go_simp
           with_reducible rfl
         rotate_left
         · simp only [Act.put, List.setIfInBounds_toArray, List.set_cons_zero, List.set_cons_succ, i64_w, i32_w]
           rfl
         refine take_ (i := 7) (N := some 96) (v := ?_) (a' := ?_) #[true, true, true, true, true, true, true, true, false, false, false] rfl rfl (take_ofW HT_.out HW_.out (by kernel_rfl)) (fun _ _ _ h => h) (Or.inl ⟨by rfl, ?_⟩) hHeld ?_ ?_
         rotate_left
         · rintro w' ⟨s0, s1, s2, s3, s4, s5⟩
           go_simp
           with_reducible rfl
         rotate_left
         · simp only [Act.put, List.setIfInBounds_toArray, List.set_cons_zero, List.set_cons_succ, i64_w, i32_w]
           rfl
         refine take_ (i := 9) (N := some 98) (v := ?_) (a' := ?_) #[true, true, true, true, true, true, true, true, false, true, false] rfl rfl (take_ofW HT_.out HW_.out (by kernel_rfl)) (fun _ _ _ h => h) (Or.inl ⟨by rfl, ?_⟩) hHeld ?_ ?_
         rotate_left
         · rintro w' ⟨s0, s1, s2, s3, s4, s5⟩
           go_simp
           with_reducible rfl
         rotate_left
         · simp only [Act.put, List.setIfInBounds_toArray, List.set_cons_zero, List.set_cons_succ, i64_w, i32_w]
           rfl
         refine one_ (i := 8) (N := some 97) #[true, true, true, true, true, true, true, true, true, true, false] rfl rfl (one_of HT_.out (by kernel_rfl)) (by decide) (fun K hK => ?_)
         refine goes_ Try.func49 (by kernel_rfl) rfl #[.agg #[.int .i64 x0, .int .i64 x1, .int .i64 x2], .agg #[.int .i64 y0, .int .i64 y1, .int .i64 y2]] (by rfl) rfl rfl (by (try simp only [List.map_toArray, List.map_cons, List.map_nil]); first | done | rfl) ?_
         refine (pianolaref07_distance.calls x0 x1 x2 y0 y1 y2 d wB HDI.out).mono ?_
         rintro e wC ⟨rfl, hb5⟩
         refine ⟨_, rfl, ?_⟩
         have HMC := Aside0.mk (HMB.out.below hb5)
         have HBC := Aside0.mk (below_then HBB.out HBB.out.size hb5)
         have HK8 := Aside0.mk (And.intro (pw_cell_below hb5 HKQ.out.1) (And.intro (pw_cell_below hb5 HKQ.out.2.1) (And.intro (pw_cell_below hb5 HKQ.out.2.2.1) (And.intro (pw_cell_below hb5 HKQ.out.2.2.2.1) (And.intro (pw_cell_below hb5 HKQ.out.2.2.2.2.1) (pw_cell_below hb5 HKQ.out.2.2.2.2.2))))))
         clear hb5
         refine hK.out _ _ HK8.out (fun hHeld => ?_)
         clear hK K
         refine norm_ (a' := ?_) ?_ ?_
         rotate_left
         · show Act.put _ (some 97) _ = _
           simp only [Act.put, List.setIfInBounds_toArray, List.set_cons_zero, List.set_cons_succ, i64_w, i32_w]
           rfl
         refine take_ (i := 10) (N := some 99) (v := ?_) (a' := ?_) #[true, true, true, true, true, true, true, true, true, true, true] rfl rfl (take_ofW HT_.out HW_.out (by kernel_rfl)) (fun _ _ _ h => h) (Or.inl ⟨by rfl, ?_⟩) hHeld ?_ ?_
         rotate_left
         · rintro w' ⟨s0, s1, s2, s3, s4, s5⟩
           go_simp
           with_reducible rfl
         rotate_left
         · simp only [Act.put, List.setIfInBounds_toArray, List.set_cons_zero, List.set_cons_succ, i64_w, i32_w]
           rfl
         refine done_ (done_of HT_.out (by kernel_rfl)) ?_
         clear hHeld HK8 HMB HBB HKQ HT_ HW_ 
         have kq := HMC.out.cell0 i n1 (Nat.lt_succ_self i)
         have kv := HMC.out.cell1 i k n1 (Nat.lt_succ_self i) n2
         have kf := HMC.out.fz1 i k n1 (Nat.lt_succ_self i)
         by_cases hdh : hh < d
         · have dd : decide (d > hh) = true := decide_eq_true hdh
           have dd2 : decide (hh < d) = true := decide_eq_true hdh
           rw [if_pos hdh] at HRU
           have HDH := Aside0.mk hdh
           clear hdh
           first | rw [dd2] | rw [dd]
           go_wp2
           have HMD := Aside0.mk (HMC.out.put i k (.int .i64 (mn 0 4503599627370496)) n1 (Nat.lt_succ_self i) n2)
           have HBD := Aside0.mk (below_set (g := B' i) (j := k) (v := .int .i64 (mn 0 4503599627370496)) HBC.out (HMC.out.rb i n1 (Nat.lt_succ_self i)).1)
           skip
           refine ⟨⟨k + 1, _, (by first | exact congrArg _ (wrap_up k HMi.out.1) | rfl), ⟨n2⟩, HMD, ⟨fun r k' h1 h2 h3 => ?_, fun k' h1 => ?_⟩, HBD⟩, ?_⟩
           · rw [if_neg (fun e => by omega)]; exact HVK.out.1 r k' h1 h2 h3
           · by_cases e : k' = k
             · rw [if_pos ⟨rfl, e⟩, e, HRU.out]
             · rw [if_neg (fun h => e h.2)]; exact HVK.out.2 k' (by omega)
           · first | (rw [wrap_up k HMi.out.1]; exact meas_up m k n2) | exact meas_up m k n2
         · have dd : decide (d > hh) = false := decide_eq_false hdh
           have dd2 : decide (hh < d) = false := decide_eq_false hdh
           rw [if_neg hdh] at HRU
           have HDH := Aside0.mk hdh
           clear hdh
           first | rw [dd2] | rw [dd]
           go_wp2
           have HMD := Aside0.mk (HMC.out.put i k (.int .i64 (mn (v1 + v2 + v3) 4503599627370496)) n1 (Nat.lt_succ_self i) n2)
           have HBD := Aside0.mk (below_set (g := B' i) (j := k) (v := .int .i64 (mn (v1 + v2 + v3) 4503599627370496)) HBC.out (HMC.out.rb i n1 (Nat.lt_succ_self i)).1)
           skip
           refine ⟨⟨k + 1, _, (by first | exact congrArg _ (wrap_up k HMi.out.1) | rfl), ⟨n2⟩, HMD, ⟨fun r k' h1 h2 h3 => ?_, fun k' h1 => ?_⟩, HBD⟩, ?_⟩
           · rw [if_neg (fun e => by omega)]; exact HVK.out.1 r k' h1 h2 h3
           · by_cases e : k' = k
             · rw [if_pos ⟨rfl, e⟩, e, HRU.out]
             · rw [if_neg (fun h => e h.2)]; exact HVK.out.2 k' (by omega)
           · first | (rw [wrap_up k HMi.out.1]; exact meas_up m k n2) | exact meas_up m k n2
       · obtain ⟨i', hi'⟩ : ∃ i', i' = i - 1 := ⟨_, rfl⟩
         have e3 : wrap64 ((i : Int) - 1) = (i' : Int) := by rw [wrap_down i HMi.out.2]; omega
         have n3 : i' < n := by omega
         have d1 : decide ((i : Int) > 0) = true := decide_eq_true (by omega)
         have d1' : decide ((0 : Int) < (i : Int)) = true := decide_eq_true (by omega)
         have q1 : ¬ ((i : Int) = 0) := by omega
         have q2 : ((i : Int) == 0) = false := beq_false_of_ne q1
         have d2 : decide ((k : Int) > 0) = false := decide_eq_false (by omega)
         have d2' : decide ((0 : Int) < (k : Int)) = false := decide_eq_false (by omega)
         have q5 : ((k : Int) == 0) = true := beq_iff_eq.2 (by omega)
         have q6 : decide ((k : Int) = 0) = true := decide_eq_true (by omega)
         have k1 := HM.out.cell0 i' n3 (by omega)
         have k2 := HM.out.cell1 i' k n3 (by omega) n2
         rw [HV.out.1 i' k (by omega) n3 n2] at k2
         have b1 := fw_in (a := a) (b := b) hh (i := i') (k := k) (by rw [← HE1.out.1]; exact n3) (by rw [← HE1.out.2]; exact n2)
         have hru := fw_eq (a := a) (b := b) hh (i := i) (k := k) (by rw [← HE1.out.1]; exact n1) (by rw [← HE1.out.2]; exact n2)
         rw [if_neg (show ¬ (i = 0 ∧ k = 0) by omega), if_pos (show 0 < i by omega), ← hi', if_neg (show ¬ 0 < k by omega), if_neg (show ¬ (0 < i ∧ 0 < k) by omega)] at hru
         generalize fw a b hh i' k = v1 at k2 hru b1
         have s_v1 : wrap64 v1 = v1 := w64' _ (by omega) (by omega)
         have z_v1 : wrap64 (0 + v1) = v1 := by rw [Int.zero_add]; exact s_v1
         have hru2 : fw a b hh i k = mn (if hh < farD (rd_T59 a i) (rd_T59 b k) then 0 else v1) 4503599627370496 := by rw [hru]; congr 2 <;> omega
         have HRX := Aside0.mk hru2
         have HQ := Aside0.mk (And.intro HMi.out.1 HMi.out.2)
         clear hru hru2 hi' b1
         go_upto_region 23 with fail
         have HMB := Aside0.mk (HM.out.below (below_drew (Below.refl wr.heap.size wr)))
         have HBB := Aside0.mk (below_drew1 HB.out)
         have hka := Kd.C_below HR.out.1 HBB.out
         have hkb := Kd.C_below HR.out.2 HBB.out
         obtain ⟨ax, rfl, t0, t1, t2⟩ := at_T79 hka (i : Int) (Int.natCast_nonneg i) (Int.ofNat_lt.2 n1)
         obtain ⟨ay, rfl, u0, u1, u2⟩ := at_T79 hkb (k : Int) (Int.natCast_nonneg k) (Int.ofNat_lt.2 n2)
         rw [rd_ev, Int.toNat_natCast] at t0 t1 t2 u0 u1 u2
         have hgx := rd_good HRo.out.ga (i : Int) ⟨Int.natCast_nonneg i, by rw [← HE1.out.1]; exact Int.ofNat_lt.2 n1⟩
         have hgy := rd_good HRo.out.gb (k : Int) ⟨Int.natCast_nonneg k, by rw [← HE1.out.2]; exact Int.ofNat_lt.2 n2⟩
         have HDI := Aside0.mk (dist_f hgx hgy)
         have HRU := Aside0.mk (HRX.out)
         clear hka hkb hgx hgy
         obtain ⟨d, hd9⟩ : ∃ d, farD (rd_T59 a i) (rd_T59 b k) = d := ⟨_, rfl⟩
         rw [hd9] at HDI HRU
         clear hd9
         have HKQ := Aside0.mk (And.intro t0 (And.intro t1 (And.intro t2 (And.intro u0 (And.intro u1 u2)))))
         clear t0 t1 t2 u0 u1 u2
         have HVK := Aside0.mk HV.out
         simp only [ev] at HKQ HDI
         generalize (rd_T59 a i).f0 = x0 at HKQ HDI
         generalize (rd_T59 a i).f1 = x1 at HKQ HDI
         generalize (rd_T59 a i).f2 = x2 at HKQ HDI
         generalize (rd_T59 b k).f0 = y0 at HKQ HDI
         generalize (rd_T59 b k).f1 = y1 at HKQ HDI
         generalize (rd_T59 b k).f2 = y2 at HKQ HDI
         refine start_ (n := 11) (S := fun w' => w'.cell? (ax.add (i * 3)) = some (.int .i64 x0) ∧ w'.cell? ⟨(ax.add (i * 3)).block, (ax.add (i * 3)).off + 1, none⟩ = some (.int .i64 x1) ∧ w'.cell? ⟨(ax.add (i * 3)).block, (ax.add (i * 3)).off + 2, none⟩ = some (.int .i64 x2) ∧ w'.cell? (ay.add (k * 3)) = some (.int .i64 y0) ∧ w'.cell? ⟨(ay.add (k * 3)).block, (ay.add (k * 3)).off + 1, none⟩ = some (.int .i64 y1) ∧ w'.cell? ⟨(ay.add (k * 3)).block, (ay.add (k * 3)).off + 2, none⟩ = some (.int .i64 y2)) (ds := []) #[false, false, false, false, false, false, false, false, false, false, false] (by kernel_rfl) rfl rfl HKQ.out (fun hHeld => ?_)
         refine with_tabW wk23_tab wk23_bits (fun HT_ HW_ => ?_)
         generalize wr.drew = wB at HMB HBB HKQ hHeld ⊢
         refine take_ (i := 0) (N := some 89) (v := ?_) (a' := ?_) #[true, false, false, false, false, false, false, false, false, false, false] rfl rfl (take_ofW HT_.out HW_.out (by kernel_rfl)) (fun _ _ _ h => h) (Or.inl ⟨by rfl, ?_⟩) hHeld ?_ ?_
         rotate_left
         · rintro w' ⟨s0, s1, s2, s3, s4, s5⟩
           go_simp
           with_reducible rfl
         rotate_left
         · simp only [Act.put, List.setIfInBounds_toArray, List.set_cons_zero, List.set_cons_succ, i64_w, i32_w]
           rfl
         refine take_ (i := 1) (N := some 90) (v := ?_) (a' := ?_) #[true, true, false, false, false, false, false, false, false, false, false] rfl rfl (take_ofW HT_.out HW_.out (by kernel_rfl)) (fun _ _ _ h => h) (Or.inl ⟨by rfl, ?_⟩) hHeld ?_ ?_
         rotate_left
         · rintro w' ⟨s0, s1, s2, s3, s4, s5⟩
           go_simp
           with_reducible rfl
         rotate_left
         · simp only [Act.put, List.setIfInBounds_toArray, List.set_cons_zero, List.set_cons_succ, i64_w, i32_w]
           rfl
         refine take_ (i := 2) (N := some 91) (v := ?_) (a' := ?_) #[true, true, true, false, false, false, false, false, false, false, false] rfl rfl (take_ofW HT_.out HW_.out (by kernel_rfl)) (fun _ _ _ h => h) (Or.inl ⟨by rfl, ?_⟩) hHeld ?_ ?_
         rotate_left
         · rintro w' ⟨s0, s1, s2, s3, s4, s5⟩
           go_simp
           with_reducible rfl
         rotate_left
         · simp only [Act.put, List.setIfInBounds_toArray, List.set_cons_zero, List.set_cons_succ, i64_w, i32_w]
           rfl
         refine take_ (i := 3) (N := some 92) (v := ?_) (a' := ?_) #[true, true, true, true, false, false, false, false, false, false, false] rfl rfl (take_ofW HT_.out HW_.out (by kernel_rfl)) (fun _ _ _ h => h) (Or.inl ⟨by rfl, ?_⟩) hHeld ?_ ?_
         rotate_left
         · rintro w' ⟨s0, s1, s2, s3, s4, s5⟩
           go_simp
           with_reducible rfl
         rotate_left
         · simp only [Act.put, List.setIfInBounds_toArray, List.set_cons_zero, List.set_cons_succ, i64_w, i32_w]
           rfl
         refine take_ (i := 4) (N := some 93) (v := ?_) (a' := ?_) #[true, true, true, true, true, false, false, false, false, false, false] rfl rfl (take_ofW HT_.out HW_.out (by kernel_rfl)) (fun _ _ _ h => h) (Or.inl ⟨by rfl, ?_⟩) hHeld ?_ ?_
         rotate_left
         · rintro w' ⟨s0, s1, s2, s3, s4, s5⟩
           go_simp
           with_reducible rfl
         rotate_left
         · simp only [Act.put, List.setIfInBounds_toArray, List.set_cons_zero, List.set_cons_succ, i64_w, i32_w]
           rfl
         refine take_ (i := 5) (N := some 94) (v := ?_) (a' := ?_) #[true, true, true, true, true, true, false, false, false, false, false] rfl rfl (take_ofW HT_.out HW_.out (by kernel_rfl)) (fun _ _ _ h => h) (Or.inl ⟨by rfl, ?_⟩) hHeld ?_ ?_
         rotate_left
         · rintro w' ⟨s0, s1, s2, s3, s4, s5⟩
           go_simp
           with_reducible rfl
         rotate_left
         · simp only [Act.put, List.setIfInBounds_toArray, List.set_cons_zero, List.set_cons_succ, i64_w, i32_w]
           rfl
         refine take_ (i := 6) (N := some 95) (v := ?_) (a' := ?_) #[true, true, true, true, true, true, true, false, false, false, false] rfl rfl (take_ofW HT_.out HW_.out (by kernel_rfl)) (fun _ _ _ h => h) (Or.inl ⟨by rfl, ?_⟩) hHeld ?_ ?_
         rotate_left
         · rintro w' ⟨s0, s1, s2, s3, s4, s5⟩
           go_simp
           with_reducible rfl
         rotate_left
         · simp only [Act.put, List.setIfInBounds_toArray, List.set_cons_zero, List.set_cons_succ, i64_w, i32_w]
           rfl
         refine take_ (i := 7) (N := some 96) (v := ?_) (a' := ?_) #[true, true, true, true, true, true, true, true, false, false, false] rfl rfl (take_ofW HT_.out HW_.out (by kernel_rfl)) (fun _ _ _ h => h) (Or.inl ⟨by rfl, ?_⟩) hHeld ?_ ?_
         rotate_left
         · rintro w' ⟨s0, s1, s2, s3, s4, s5⟩
           go_simp
           with_reducible rfl
         rotate_left
         · simp only [Act.put, List.setIfInBounds_toArray, List.set_cons_zero, List.set_cons_succ, i64_w, i32_w]
           rfl
         refine take_ (i := 9) (N := some 98) (v := ?_) (a' := ?_) #[true, true, true, true, true, true, true, true, false, true, false] rfl rfl (take_ofW HT_.out HW_.out (by kernel_rfl)) (fun _ _ _ h => h) (Or.inl ⟨by rfl, ?_⟩) hHeld ?_ ?_
         rotate_left
         · rintro w' ⟨s0, s1, s2, s3, s4, s5⟩
           go_simp
           with_reducible rfl
         rotate_left
         · simp only [Act.put, List.setIfInBounds_toArray, List.set_cons_zero, List.set_cons_succ, i64_w, i32_w]
           rfl
         refine one_ (i := 8) (N := some 97) #[true, true, true, true, true, true, true, true, true, true, false] rfl rfl (one_of HT_.out (by kernel_rfl)) (by decide) (fun K hK => ?_)
         refine goes_ Try.func49 (by kernel_rfl) rfl #[.agg #[.int .i64 x0, .int .i64 x1, .int .i64 x2], .agg #[.int .i64 y0, .int .i64 y1, .int .i64 y2]] (by rfl) rfl rfl (by (try simp only [List.map_toArray, List.map_cons, List.map_nil]); first | done | rfl) ?_
         refine (pianolaref07_distance.calls x0 x1 x2 y0 y1 y2 d wB HDI.out).mono ?_
         rintro e wC ⟨rfl, hb5⟩
         refine ⟨_, rfl, ?_⟩
         have HMC := Aside0.mk (HMB.out.below hb5)
         have HBC := Aside0.mk (below_then HBB.out HBB.out.size hb5)
         have HK8 := Aside0.mk (And.intro (pw_cell_below hb5 HKQ.out.1) (And.intro (pw_cell_below hb5 HKQ.out.2.1) (And.intro (pw_cell_below hb5 HKQ.out.2.2.1) (And.intro (pw_cell_below hb5 HKQ.out.2.2.2.1) (And.intro (pw_cell_below hb5 HKQ.out.2.2.2.2.1) (pw_cell_below hb5 HKQ.out.2.2.2.2.2))))))
         clear hb5
         refine hK.out _ _ HK8.out (fun hHeld => ?_)
         clear hK K
         refine norm_ (a' := ?_) ?_ ?_
         rotate_left
         · show Act.put _ (some 97) _ = _
           simp only [Act.put, List.setIfInBounds_toArray, List.set_cons_zero, List.set_cons_succ, i64_w, i32_w]
           rfl
         refine take_ (i := 10) (N := some 99) (v := ?_) (a' := ?_) #[true, true, true, true, true, true, true, true, true, true, true] rfl rfl (take_ofW HT_.out HW_.out (by kernel_rfl)) (fun _ _ _ h => h) (Or.inl ⟨by rfl, ?_⟩) hHeld ?_ ?_
         rotate_left
         · rintro w' ⟨s0, s1, s2, s3, s4, s5⟩
           go_simp
           with_reducible rfl
         rotate_left
         · simp only [Act.put, List.setIfInBounds_toArray, List.set_cons_zero, List.set_cons_succ, i64_w, i32_w]
           rfl
         refine done_ (done_of HT_.out (by kernel_rfl)) ?_
         clear hHeld HK8 HMB HBB HKQ HT_ HW_ 
         have kq := HMC.out.cell0 i n1 (Nat.lt_succ_self i)
         have kv := HMC.out.cell1 i k n1 (Nat.lt_succ_self i) n2
         have kf := HMC.out.fz1 i k n1 (Nat.lt_succ_self i)
         by_cases hdh : hh < d
         · have dd : decide (d > hh) = true := decide_eq_true hdh
           have dd2 : decide (hh < d) = true := decide_eq_true hdh
           rw [if_pos hdh] at HRU
           have HDH := Aside0.mk hdh
           clear hdh
           first | rw [dd2] | rw [dd]
           go_wp2
           have HMD := Aside0.mk (HMC.out.put i k (.int .i64 (mn 0 4503599627370496)) n1 (Nat.lt_succ_self i) n2)
           have HBD := Aside0.mk (below_set (g := B' i) (j := k) (v := .int .i64 (mn 0 4503599627370496)) HBC.out (HMC.out.rb i n1 (Nat.lt_succ_self i)).1)
           skip
           refine ⟨⟨k + 1, _, (by first | exact congrArg _ (wrap_up k HMi.out.1) | rfl), ⟨n2⟩, HMD, ⟨fun r k' h1 h2 h3 => ?_, fun k' h1 => ?_⟩, HBD⟩, ?_⟩
           · rw [if_neg (fun e => by omega)]; exact HVK.out.1 r k' h1 h2 h3
           · by_cases e : k' = k
             · rw [if_pos ⟨rfl, e⟩, e, HRU.out]
             · rw [if_neg (fun h => e h.2)]; exact HVK.out.2 k' (by omega)
           · first | (rw [wrap_up k HMi.out.1]; exact meas_up m k n2) | exact meas_up m k n2
         · have dd : decide (d > hh) = false := decide_eq_false hdh
           have dd2 : decide (hh < d) = false := decide_eq_false hdh
           rw [if_neg hdh] at HRU
           have HDH := Aside0.mk hdh
           clear hdh
           first | rw [dd2] | rw [dd]
           go_wp2
           have HMD := Aside0.mk (HMC.out.put i k (.int .i64 (mn v1 4503599627370496)) n1 (Nat.lt_succ_self i) n2)
           have HBD := Aside0.mk (below_set (g := B' i) (j := k) (v := .int .i64 (mn v1 4503599627370496)) HBC.out (HMC.out.rb i n1 (Nat.lt_succ_self i)).1)
           skip
           refine ⟨⟨k + 1, _, (by first | exact congrArg _ (wrap_up k HMi.out.1) | rfl), ⟨n2⟩, HMD, ⟨fun r k' h1 h2 h3 => ?_, fun k' h1 => ?_⟩, HBD⟩, ?_⟩
           · rw [if_neg (fun e => by omega)]; exact HVK.out.1 r k' h1 h2 h3
           · by_cases e : k' = k
             · rw [if_pos ⟨rfl, e⟩, e, HRU.out]
             · rw [if_neg (fun h => e h.2)]; exact HVK.out.2 k' (by omega)
           · first | (rw [wrap_up k HMi.out.1]; exact meas_up m k n2) | exact meas_up m k n2
       · have d1 : decide ((i : Int) > 0) = false := decide_eq_false (by omega)
         have d1' : decide ((0 : Int) < (i : Int)) = false := decide_eq_false (by omega)
         have q2 : ((i : Int) == 0) = true := beq_iff_eq.2 (by omega)
         have q3 : decide ((i : Int) = 0) = true := decide_eq_true (by omega)
         obtain ⟨k', hk'⟩ : ∃ k', k' = k - 1 := ⟨_, rfl⟩
         have e4 : wrap64 ((k : Int) - 1) = (k' : Int) := by rw [wrap_down k HMi.out.1]; omega
         have n4 : k' < m := by omega
         have d2 : decide ((k : Int) > 0) = true := decide_eq_true (by omega)
         have d2' : decide ((0 : Int) < (k : Int)) = true := decide_eq_true (by omega)
         have q4 : ¬ ((k : Int) = 0) := by omega
         have q5 : ((k : Int) == 0) = false := beq_false_of_ne q4
         have k3 := HM.out.cell0 i n1 (by omega)
         have k4 := HM.out.cell1 i k' n1 (by omega) n4
         rw [HV.out.2 k' (by omega)] at k4
         have b2 := fw_in (a := a) (b := b) hh (i := i) (k := k') (by rw [← HE1.out.1]; exact n1) (by rw [← HE1.out.2]; exact n4)
         have hru := fw_eq (a := a) (b := b) hh (i := i) (k := k) (by rw [← HE1.out.1]; exact n1) (by rw [← HE1.out.2]; exact n2)
         rw [if_neg (show ¬ (i = 0 ∧ k = 0) by omega), if_neg (show ¬ 0 < i by omega), if_pos (show 0 < k by omega), ← hk', if_neg (show ¬ (0 < i ∧ 0 < k) by omega)] at hru
         generalize fw a b hh i k' = v2 at k4 hru b2
         have s_v2 : wrap64 v2 = v2 := w64' _ (by omega) (by omega)
         have z_v2 : wrap64 (0 + v2) = v2 := by rw [Int.zero_add]; exact s_v2
         have hru2 : fw a b hh i k = mn (if hh < farD (rd_T59 a i) (rd_T59 b k) then 0 else v2) 4503599627370496 := by rw [hru]; congr 2 <;> omega
         have HRX := Aside0.mk hru2
         have HQ := Aside0.mk (And.intro HMi.out.1 HMi.out.2)
         clear hru hru2 hk' b2
         go_upto_region 23 with fail
         have HMB := Aside0.mk (HM.out.below (below_drew (Below.refl wr.heap.size wr)))
         have HBB := Aside0.mk (below_drew1 HB.out)
         have hka := Kd.C_below HR.out.1 HBB.out
         have hkb := Kd.C_below HR.out.2 HBB.out
         obtain ⟨ax, rfl, t0, t1, t2⟩ := at_T79 hka (i : Int) (Int.natCast_nonneg i) (Int.ofNat_lt.2 n1)
         obtain ⟨ay, rfl, u0, u1, u2⟩ := at_T79 hkb (k : Int) (Int.natCast_nonneg k) (Int.ofNat_lt.2 n2)
         rw [rd_ev, Int.toNat_natCast] at t0 t1 t2 u0 u1 u2
         have hgx := rd_good HRo.out.ga (i : Int) ⟨Int.natCast_nonneg i, by rw [← HE1.out.1]; exact Int.ofNat_lt.2 n1⟩
         have hgy := rd_good HRo.out.gb (k : Int) ⟨Int.natCast_nonneg k, by rw [← HE1.out.2]; exact Int.ofNat_lt.2 n2⟩
         have HDI := Aside0.mk (dist_f hgx hgy)
         have HRU := Aside0.mk (HRX.out)
         clear hka hkb hgx hgy
         obtain ⟨d, hd9⟩ : ∃ d, farD (rd_T59 a i) (rd_T59 b k) = d := ⟨_, rfl⟩
         rw [hd9] at HDI HRU
         clear hd9
         have HKQ := Aside0.mk (And.intro t0 (And.intro t1 (And.intro t2 (And.intro u0 (And.intro u1 u2)))))
         clear t0 t1 t2 u0 u1 u2
         have HVK := Aside0.mk HV.out
         simp only [ev] at HKQ HDI
         generalize (rd_T59 a i).f0 = x0 at HKQ HDI
         generalize (rd_T59 a i).f1 = x1 at HKQ HDI
         generalize (rd_T59 a i).f2 = x2 at HKQ HDI
         generalize (rd_T59 b k).f0 = y0 at HKQ HDI
         generalize (rd_T59 b k).f1 = y1 at HKQ HDI
         generalize (rd_T59 b k).f2 = y2 at HKQ HDI
         refine start_ (n := 11) (S := fun w' => w'.cell? (ax.add (i * 3)) = some (.int .i64 x0) ∧ w'.cell? ⟨(ax.add (i * 3)).block, (ax.add (i * 3)).off + 1, none⟩ = some (.int .i64 x1) ∧ w'.cell? ⟨(ax.add (i * 3)).block, (ax.add (i * 3)).off + 2, none⟩ = some (.int .i64 x2) ∧ w'.cell? (ay.add (k * 3)) = some (.int .i64 y0) ∧ w'.cell? ⟨(ay.add (k * 3)).block, (ay.add (k * 3)).off + 1, none⟩ = some (.int .i64 y1) ∧ w'.cell? ⟨(ay.add (k * 3)).block, (ay.add (k * 3)).off + 2, none⟩ = some (.int .i64 y2)) (ds := []) #[false, false, false, false, false, false, false, false, false, false, false] (by kernel_rfl) rfl rfl HKQ.out (fun hHeld => ?_)
         refine with_tabW wk23_tab wk23_bits (fun HT_ HW_ => ?_)
         generalize wr.drew = wB at HMB HBB HKQ hHeld ⊢
         refine take_ (i := 0) (N := some 89) (v := ?_) (a' := ?_) #[true, false, false, false, false, false, false, false, false, false, false] rfl rfl (take_ofW HT_.out HW_.out (by kernel_rfl)) (fun _ _ _ h => h) (Or.inl ⟨by rfl, ?_⟩) hHeld ?_ ?_
         rotate_left
         · rintro w' ⟨s0, s1, s2, s3, s4, s5⟩
           go_simp
           with_reducible rfl
         rotate_left
         · simp only [Act.put, List.setIfInBounds_toArray, List.set_cons_zero, List.set_cons_succ, i64_w, i32_w]
           rfl
         refine take_ (i := 1) (N := some 90) (v := ?_) (a' := ?_) #[true, true, false, false, false, false, false, false, false, false, false] rfl rfl (take_ofW HT_.out HW_.out (by kernel_rfl)) (fun _ _ _ h => h) (Or.inl ⟨by rfl, ?_⟩) hHeld ?_ ?_
         rotate_left
         · rintro w' ⟨s0, s1, s2, s3, s4, s5⟩
           go_simp
           with_reducible rfl
         rotate_left
         · simp only [Act.put, List.setIfInBounds_toArray, List.set_cons_zero, List.set_cons_succ, i64_w, i32_w]
           rfl
         refine take_ (i := 2) (N := some 91) (v := ?_) (a' := ?_) #[true, true, true, false, false, false, false, false, false, false, false] rfl rfl (take_ofW HT_.out HW_.out (by kernel_rfl)) (fun _ _ _ h => h) (Or.inl ⟨by rfl, ?_⟩) hHeld ?_ ?_
         rotate_left
         · rintro w' ⟨s0, s1, s2, s3, s4, s5⟩
           go_simp
           with_reducible rfl
         rotate_left
         · simp only [Act.put, List.setIfInBounds_toArray, List.set_cons_zero, List.set_cons_succ, i64_w, i32_w]
           rfl
         refine take_ (i := 3) (N := some 92) (v := ?_) (a' := ?_) #[true, true, true, true, false, false, false, false, false, false, false] rfl rfl (take_ofW HT_.out HW_.out (by kernel_rfl)) (fun _ _ _ h => h) (Or.inl ⟨by rfl, ?_⟩) hHeld ?_ ?_
         rotate_left
         · rintro w' ⟨s0, s1, s2, s3, s4, s5⟩
           go_simp
           with_reducible rfl
         rotate_left
         · simp only [Act.put, List.setIfInBounds_toArray, List.set_cons_zero, List.set_cons_succ, i64_w, i32_w]
           rfl
         refine take_ (i := 4) (N := some 93) (v := ?_) (a' := ?_) #[true, true, true, true, true, false, false, false, false, false, false] rfl rfl (take_ofW HT_.out HW_.out (by kernel_rfl)) (fun _ _ _ h => h) (Or.inl ⟨by rfl, ?_⟩) hHeld ?_ ?_
         rotate_left
         · rintro w' ⟨s0, s1, s2, s3, s4, s5⟩
           go_simp
           with_reducible rfl
         rotate_left
         · simp only [Act.put, List.setIfInBounds_toArray, List.set_cons_zero, List.set_cons_succ, i64_w, i32_w]
           rfl
         refine take_ (i := 5) (N := some 94) (v := ?_) (a' := ?_) #[true, true, true, true, true, true, false, false, false, false, false] rfl rfl (take_ofW HT_.out HW_.out (by kernel_rfl)) (fun _ _ _ h => h) (Or.inl ⟨by rfl, ?_⟩) hHeld ?_ ?_
         rotate_left
         · rintro w' ⟨s0, s1, s2, s3, s4, s5⟩
           go_simp
           with_reducible rfl
         rotate_left
         · simp only [Act.put, List.setIfInBounds_toArray, List.set_cons_zero, List.set_cons_succ, i64_w, i32_w]
           rfl
         refine take_ (i := 6) (N := some 95) (v := ?_) (a' := ?_) #[true, true, true, true, true, true, true, false, false, false, false] rfl rfl (take_ofW HT_.out HW_.out (by kernel_rfl)) (fun _ _ _ h => h) (Or.inl ⟨by rfl, ?_⟩) hHeld ?_ ?_
         rotate_left
         · rintro w' ⟨s0, s1, s2, s3, s4, s5⟩
           go_simp
           with_reducible rfl
         rotate_left
         · simp only [Act.put, List.setIfInBounds_toArray, List.set_cons_zero, List.set_cons_succ, i64_w, i32_w]
           rfl
         refine take_ (i := 7) (N := some 96) (v := ?_) (a' := ?_) #[true, true, true, true, true, true, true, true, false, false, false] rfl rfl (take_ofW HT_.out HW_.out (by kernel_rfl)) (fun _ _ _ h => h) (Or.inl ⟨by rfl, ?_⟩) hHeld ?_ ?_
         rotate_left
         · rintro w' ⟨s0, s1, s2, s3, s4, s5⟩
           go_simp
           with_reducible rfl
         rotate_left
         · simp only [Act.put, List.setIfInBounds_toArray, List.set_cons_zero, List.set_cons_succ, i64_w, i32_w]
           rfl
         refine take_ (i := 9) (N := some 98) (v := ?_) (a' := ?_) #[true, true, true, true, true, true, true, true, false, true, false] rfl rfl (take_ofW HT_.out HW_.out (by kernel_rfl)) (fun _ _ _ h => h) (Or.inl ⟨by rfl, ?_⟩) hHeld ?_ ?_
         rotate_left
         · rintro w' ⟨s0, s1, s2, s3, s4, s5⟩
           go_simp
           with_reducible rfl
         rotate_left
         · simp only [Act.put, List.setIfInBounds_toArray, List.set_cons_zero, List.set_cons_succ, i64_w, i32_w]
           rfl
         refine one_ (i := 8) (N := some 97) #[true, true, true, true, true, true, true, true, true, true, false] rfl rfl (one_of HT_.out (by kernel_rfl)) (by decide) (fun K hK => ?_)
         refine goes_ Try.func49 (by kernel_rfl) rfl #[.agg #[.int .i64 x0, .int .i64 x1, .int .i64 x2], .agg #[.int .i64 y0, .int .i64 y1, .int .i64 y2]] (by rfl) rfl rfl (by (try simp only [List.map_toArray, List.map_cons, List.map_nil]); first | done | rfl) ?_
         refine (pianolaref07_distance.calls x0 x1 x2 y0 y1 y2 d wB HDI.out).mono ?_
         rintro e wC ⟨rfl, hb5⟩
         refine ⟨_, rfl, ?_⟩
         have HMC := Aside0.mk (HMB.out.below hb5)
         have HBC := Aside0.mk (below_then HBB.out HBB.out.size hb5)
         have HK8 := Aside0.mk (And.intro (pw_cell_below hb5 HKQ.out.1) (And.intro (pw_cell_below hb5 HKQ.out.2.1) (And.intro (pw_cell_below hb5 HKQ.out.2.2.1) (And.intro (pw_cell_below hb5 HKQ.out.2.2.2.1) (And.intro (pw_cell_below hb5 HKQ.out.2.2.2.2.1) (pw_cell_below hb5 HKQ.out.2.2.2.2.2))))))
         clear hb5
         refine hK.out _ _ HK8.out (fun hHeld => ?_)
         clear hK K
         refine norm_ (a' := ?_) ?_ ?_
         rotate_left
         · show Act.put _ (some 97) _ = _
           simp only [Act.put, List.setIfInBounds_toArray, List.set_cons_zero, List.set_cons_succ, i64_w, i32_w]
           rfl
         refine take_ (i := 10) (N := some 99) (v := ?_) (a' := ?_) #[true, true, true, true, true, true, true, true, true, true, true] rfl rfl (take_ofW HT_.out HW_.out (by kernel_rfl)) (fun _ _ _ h => h) (Or.inl ⟨by rfl, ?_⟩) hHeld ?_ ?_
         rotate_left
         · rintro w' ⟨s0, s1, s2, s3, s4, s5⟩
           go_simp
           with_reducible rfl
         rotate_left
         · simp only [Act.put, List.setIfInBounds_toArray, List.set_cons_zero, List.set_cons_succ, i64_w, i32_w]
           rfl
         refine done_ (done_of HT_.out (by kernel_rfl)) ?_
         clear hHeld HK8 HMB HBB HKQ HT_ HW_ 
         have kq := HMC.out.cell0 i n1 (Nat.lt_succ_self i)
         have kv := HMC.out.cell1 i k n1 (Nat.lt_succ_self i) n2
         have kf := HMC.out.fz1 i k n1 (Nat.lt_succ_self i)
         by_cases hdh : hh < d
         · have dd : decide (d > hh) = true := decide_eq_true hdh
           have dd2 : decide (hh < d) = true := decide_eq_true hdh
           rw [if_pos hdh] at HRU
           have HDH := Aside0.mk hdh
           clear hdh
           first | rw [dd2] | rw [dd]
           go_wp2
           have HMD := Aside0.mk (HMC.out.put i k (.int .i64 (mn 0 4503599627370496)) n1 (Nat.lt_succ_self i) n2)
           have HBD := Aside0.mk (below_set (g := B' i) (j := k) (v := .int .i64 (mn 0 4503599627370496)) HBC.out (HMC.out.rb i n1 (Nat.lt_succ_self i)).1)
           skip
           refine ⟨⟨k + 1, _, (by first | exact congrArg _ (wrap_up k HMi.out.1) | rfl), ⟨n2⟩, HMD, ⟨fun r k' h1 h2 h3 => ?_, fun k' h1 => ?_⟩, HBD⟩, ?_⟩
           · rw [if_neg (fun e => by omega)]; exact HVK.out.1 r k' h1 h2 h3
           · by_cases e : k' = k
             · rw [if_pos ⟨rfl, e⟩, e, HRU.out]
             · rw [if_neg (fun h => e h.2)]; exact HVK.out.2 k' (by omega)
           · first | (rw [wrap_up k HMi.out.1]; exact meas_up m k n2) | exact meas_up m k n2
         · have dd : decide (d > hh) = false := decide_eq_false hdh
           have dd2 : decide (hh < d) = false := decide_eq_false hdh
           rw [if_neg hdh] at HRU
           have HDH := Aside0.mk hdh
           clear hdh
           first | rw [dd2] | rw [dd]
           go_wp2
           have HMD := Aside0.mk (HMC.out.put i k (.int .i64 (mn v2 4503599627370496)) n1 (Nat.lt_succ_self i) n2)
           have HBD := Aside0.mk (below_set (g := B' i) (j := k) (v := .int .i64 (mn v2 4503599627370496)) HBC.out (HMC.out.rb i n1 (Nat.lt_succ_self i)).1)
           skip
           refine ⟨⟨k + 1, _, (by first | exact congrArg _ (wrap_up k HMi.out.1) | rfl), ⟨n2⟩, HMD, ⟨fun r k' h1 h2 h3 => ?_, fun k' h1 => ?_⟩, HBD⟩, ?_⟩
           · rw [if_neg (fun e => by omega)]; exact HVK.out.1 r k' h1 h2 h3
           · by_cases e : k' = k
             · rw [if_pos ⟨rfl, e⟩, e, HRU.out]
             · rw [if_neg (fun h => e h.2)]; exact HVK.out.2 k' (by omega)
           · first | (rw [wrap_up k HMi.out.1]; exact meas_up m k n2) | exact meas_up m k n2
       · have d1 : decide ((i : Int) > 0) = false := decide_eq_false (by omega)
         have d1' : decide ((0 : Int) < (i : Int)) = false := decide_eq_false (by omega)
         have q2 : ((i : Int) == 0) = true := beq_iff_eq.2 (by omega)
         have q3 : decide ((i : Int) = 0) = true := decide_eq_true (by omega)
         have d2 : decide ((k : Int) > 0) = false := decide_eq_false (by omega)
         have d2' : decide ((0 : Int) < (k : Int)) = false := decide_eq_false (by omega)
         have q5 : ((k : Int) == 0) = true := beq_iff_eq.2 (by omega)
         have q6 : decide ((k : Int) = 0) = true := decide_eq_true (by omega)
         have hru := fw_eq (a := a) (b := b) hh (i := i) (k := k) (by rw [← HE1.out.1]; exact n1) (by rw [← HE1.out.2]; exact n2)
         rw [if_pos (show i = 0 ∧ k = 0 by omega), if_neg (show ¬ 0 < i by omega), if_neg (show ¬ 0 < k by omega), if_neg (show ¬ (0 < i ∧ 0 < k) by omega)] at hru
         have hru2 : fw a b hh i k = mn (if hh < farD (rd_T59 a i) (rd_T59 b k) then 0 else 1) 4503599627370496 := by rw [hru]; congr 2 <;> omega
         have HRX := Aside0.mk hru2
         have HQ := Aside0.mk (And.intro HMi.out.1 HMi.out.2)
         clear hru hru2 
         go_upto_region 23 with fail
         have HMB := Aside0.mk (HM.out.below (below_drew (Below.refl wr.heap.size wr)))
         have HBB := Aside0.mk (below_drew1 HB.out)
         have hka := Kd.C_below HR.out.1 HBB.out
         have hkb := Kd.C_below HR.out.2 HBB.out
         obtain ⟨ax, rfl, t0, t1, t2⟩ := at_T79 hka (i : Int) (Int.natCast_nonneg i) (Int.ofNat_lt.2 n1)
         obtain ⟨ay, rfl, u0, u1, u2⟩ := at_T79 hkb (k : Int) (Int.natCast_nonneg k) (Int.ofNat_lt.2 n2)
         rw [rd_ev, Int.toNat_natCast] at t0 t1 t2 u0 u1 u2
         have hgx := rd_good HRo.out.ga (i : Int) ⟨Int.natCast_nonneg i, by rw [← HE1.out.1]; exact Int.ofNat_lt.2 n1⟩
         have hgy := rd_good HRo.out.gb (k : Int) ⟨Int.natCast_nonneg k, by rw [← HE1.out.2]; exact Int.ofNat_lt.2 n2⟩
         have HDI := Aside0.mk (dist_f hgx hgy)
         have HRU := Aside0.mk (HRX.out)
         clear hka hkb hgx hgy
         obtain ⟨d, hd9⟩ : ∃ d, farD (rd_T59 a i) (rd_T59 b k) = d := ⟨_, rfl⟩
         rw [hd9] at HDI HRU
         clear hd9
         have HKQ := Aside0.mk (And.intro t0 (And.intro t1 (And.intro t2 (And.intro u0 (And.intro u1 u2)))))
         clear t0 t1 t2 u0 u1 u2
         have HVK := Aside0.mk HV.out
         simp only [ev] at HKQ HDI
         generalize (rd_T59 a i).f0 = x0 at HKQ HDI
         generalize (rd_T59 a i).f1 = x1 at HKQ HDI
         generalize (rd_T59 a i).f2 = x2 at HKQ HDI
         generalize (rd_T59 b k).f0 = y0 at HKQ HDI
         generalize (rd_T59 b k).f1 = y1 at HKQ HDI
         generalize (rd_T59 b k).f2 = y2 at HKQ HDI
         refine start_ (n := 11) (S := fun w' => w'.cell? (ax.add (i * 3)) = some (.int .i64 x0) ∧ w'.cell? ⟨(ax.add (i * 3)).block, (ax.add (i * 3)).off + 1, none⟩ = some (.int .i64 x1) ∧ w'.cell? ⟨(ax.add (i * 3)).block, (ax.add (i * 3)).off + 2, none⟩ = some (.int .i64 x2) ∧ w'.cell? (ay.add (k * 3)) = some (.int .i64 y0) ∧ w'.cell? ⟨(ay.add (k * 3)).block, (ay.add (k * 3)).off + 1, none⟩ = some (.int .i64 y1) ∧ w'.cell? ⟨(ay.add (k * 3)).block, (ay.add (k * 3)).off + 2, none⟩ = some (.int .i64 y2)) (ds := []) #[false, false, false, false, false, false, false, false, false, false, false] (by kernel_rfl) rfl rfl HKQ.out (fun hHeld => ?_)
         refine with_tabW wk23_tab wk23_bits (fun HT_ HW_ => ?_)
         generalize wr.drew = wB at HMB HBB HKQ hHeld ⊢
         refine take_ (i := 0) (N := some 89) (v := ?_) (a' := ?_) #[true, false, false, false, false, false, false, false, false, false, false] rfl rfl (take_ofW HT_.out HW_.out (by kernel_rfl)) (fun _ _ _ h => h) (Or.inl ⟨by rfl, ?_⟩) hHeld ?_ ?_
         rotate_left
         · rintro w' ⟨s0, s1, s2, s3, s4, s5⟩
           go_simp
           with_reducible rfl
         rotate_left
         · simp only [Act.put, List.setIfInBounds_toArray, List.set_cons_zero, List.set_cons_succ, i64_w, i32_w]
           rfl
         refine take_ (i := 1) (N := some 90) (v := ?_) (a' := ?_) #[true, true, false, false, false, false, false, false, false, false, false] rfl rfl (take_ofW HT_.out HW_.out (by kernel_rfl)) (fun _ _ _ h => h) (Or.inl ⟨by rfl, ?_⟩) hHeld ?_ ?_
         rotate_left
         · rintro w' ⟨s0, s1, s2, s3, s4, s5⟩
           go_simp
           with_reducible rfl
         rotate_left
         · simp only [Act.put, List.setIfInBounds_toArray, List.set_cons_zero, List.set_cons_succ, i64_w, i32_w]
           rfl
         refine take_ (i := 2) (N := some 91) (v := ?_) (a' := ?_) #[true, true, true, false, false, false, false, false, false, false, false] rfl rfl (take_ofW HT_.out HW_.out (by kernel_rfl)) (fun _ _ _ h => h) (Or.inl ⟨by rfl, ?_⟩) hHeld ?_ ?_
         rotate_left
         · rintro w' ⟨s0, s1, s2, s3, s4, s5⟩
           go_simp
           with_reducible rfl
         rotate_left
         · simp only [Act.put, List.setIfInBounds_toArray, List.set_cons_zero, List.set_cons_succ, i64_w, i32_w]
           rfl
         refine take_ (i := 3) (N := some 92) (v := ?_) (a' := ?_) #[true, true, true, true, false, false, false, false, false, false, false] rfl rfl (take_ofW HT_.out HW_.out (by kernel_rfl)) (fun _ _ _ h => h) (Or.inl ⟨by rfl, ?_⟩) hHeld ?_ ?_
         rotate_left
         · rintro w' ⟨s0, s1, s2, s3, s4, s5⟩
           go_simp
           with_reducible rfl
         rotate_left
         · simp only [Act.put, List.setIfInBounds_toArray, List.set_cons_zero, List.set_cons_succ, i64_w, i32_w]
           rfl
         refine take_ (i := 4) (N := some 93) (v := ?_) (a' := ?_) #[true, true, true, true, true, false, false, false, false, false, false] rfl rfl (take_ofW HT_.out HW_.out (by kernel_rfl)) (fun _ _ _ h => h) (Or.inl ⟨by rfl, ?_⟩) hHeld ?_ ?_
         rotate_left
         · rintro w' ⟨s0, s1, s2, s3, s4, s5⟩
           go_simp
           with_reducible rfl
         rotate_left
         · simp only [Act.put, List.setIfInBounds_toArray, List.set_cons_zero, List.set_cons_succ, i64_w, i32_w]
           rfl
         refine take_ (i := 5) (N := some 94) (v := ?_) (a' := ?_) #[true, true, true, true, true, true, false, false, false, false, false] rfl rfl (take_ofW HT_.out HW_.out (by kernel_rfl)) (fun _ _ _ h => h) (Or.inl ⟨by rfl, ?_⟩) hHeld ?_ ?_
         rotate_left
         · rintro w' ⟨s0, s1, s2, s3, s4, s5⟩
           go_simp
           with_reducible rfl
         rotate_left
         · simp only [Act.put, List.setIfInBounds_toArray, List.set_cons_zero, List.set_cons_succ, i64_w, i32_w]
           rfl
         refine take_ (i := 6) (N := some 95) (v := ?_) (a' := ?_) #[true, true, true, true, true, true, true, false, false, false, false] rfl rfl (take_ofW HT_.out HW_.out (by kernel_rfl)) (fun _ _ _ h => h) (Or.inl ⟨by rfl, ?_⟩) hHeld ?_ ?_
         rotate_left
         · rintro w' ⟨s0, s1, s2, s3, s4, s5⟩
           go_simp
           with_reducible rfl
         rotate_left
         · simp only [Act.put, List.setIfInBounds_toArray, List.set_cons_zero, List.set_cons_succ, i64_w, i32_w]
           rfl
         refine take_ (i := 7) (N := some 96) (v := ?_) (a' := ?_) #[true, true, true, true, true, true, true, true, false, false, false] rfl rfl (take_ofW HT_.out HW_.out (by kernel_rfl)) (fun _ _ _ h => h) (Or.inl ⟨by rfl, ?_⟩) hHeld ?_ ?_
         rotate_left
         · rintro w' ⟨s0, s1, s2, s3, s4, s5⟩
           go_simp
           with_reducible rfl
         rotate_left
         · simp only [Act.put, List.setIfInBounds_toArray, List.set_cons_zero, List.set_cons_succ, i64_w, i32_w]
           rfl
         refine take_ (i := 9) (N := some 98) (v := ?_) (a' := ?_) #[true, true, true, true, true, true, true, true, false, true, false] rfl rfl (take_ofW HT_.out HW_.out (by kernel_rfl)) (fun _ _ _ h => h) (Or.inl ⟨by rfl, ?_⟩) hHeld ?_ ?_
         rotate_left
         · rintro w' ⟨s0, s1, s2, s3, s4, s5⟩
           go_simp
           with_reducible rfl
         rotate_left
         · simp only [Act.put, List.setIfInBounds_toArray, List.set_cons_zero, List.set_cons_succ, i64_w, i32_w]
           rfl
         refine one_ (i := 8) (N := some 97) #[true, true, true, true, true, true, true, true, true, true, false] rfl rfl (one_of HT_.out (by kernel_rfl)) (by decide) (fun K hK => ?_)
         refine goes_ Try.func49 (by kernel_rfl) rfl #[.agg #[.int .i64 x0, .int .i64 x1, .int .i64 x2], .agg #[.int .i64 y0, .int .i64 y1, .int .i64 y2]] (by rfl) rfl rfl (by (try simp only [List.map_toArray, List.map_cons, List.map_nil]); first | done | rfl) ?_
         refine (pianolaref07_distance.calls x0 x1 x2 y0 y1 y2 d wB HDI.out).mono ?_
         rintro e wC ⟨rfl, hb5⟩
         refine ⟨_, rfl, ?_⟩
         have HMC := Aside0.mk (HMB.out.below hb5)
         have HBC := Aside0.mk (below_then HBB.out HBB.out.size hb5)
         have HK8 := Aside0.mk (And.intro (pw_cell_below hb5 HKQ.out.1) (And.intro (pw_cell_below hb5 HKQ.out.2.1) (And.intro (pw_cell_below hb5 HKQ.out.2.2.1) (And.intro (pw_cell_below hb5 HKQ.out.2.2.2.1) (And.intro (pw_cell_below hb5 HKQ.out.2.2.2.2.1) (pw_cell_below hb5 HKQ.out.2.2.2.2.2))))))
         clear hb5
         refine hK.out _ _ HK8.out (fun hHeld => ?_)
         clear hK K
         refine norm_ (a' := ?_) ?_ ?_
         rotate_left
         · show Act.put _ (some 97) _ = _
           simp only [Act.put, List.setIfInBounds_toArray, List.set_cons_zero, List.set_cons_succ, i64_w, i32_w]
           rfl
         refine take_ (i := 10) (N := some 99) (v := ?_) (a' := ?_) #[true, true, true, true, true, true, true, true, true, true, true] rfl rfl (take_ofW HT_.out HW_.out (by kernel_rfl)) (fun _ _ _ h => h) (Or.inl ⟨by rfl, ?_⟩) hHeld ?_ ?_
         rotate_left
         · rintro w' ⟨s0, s1, s2, s3, s4, s5⟩
           go_simp
           with_reducible rfl
         rotate_left
         · simp only [Act.put, List.setIfInBounds_toArray, List.set_cons_zero, List.set_cons_succ, i64_w, i32_w]
           rfl
         refine done_ (done_of HT_.out (by kernel_rfl)) ?_
         clear hHeld HK8 HMB HBB HKQ HT_ HW_ 
         have kq := HMC.out.cell0 i n1 (Nat.lt_succ_self i)
         have kv := HMC.out.cell1 i k n1 (Nat.lt_succ_self i) n2
         have kf := HMC.out.fz1 i k n1 (Nat.lt_succ_self i)
         by_cases hdh : hh < d
         · have dd : decide (d > hh) = true := decide_eq_true hdh
           have dd2 : decide (hh < d) = true := decide_eq_true hdh
           rw [if_pos hdh] at HRU
           have HDH := Aside0.mk hdh
           clear hdh
           first | rw [dd2] | rw [dd]
           go_wp2
           have HMD := Aside0.mk (HMC.out.put i k (.int .i64 (mn 0 4503599627370496)) n1 (Nat.lt_succ_self i) n2)
           have HBD := Aside0.mk (below_set (g := B' i) (j := k) (v := .int .i64 (mn 0 4503599627370496)) HBC.out (HMC.out.rb i n1 (Nat.lt_succ_self i)).1)
           skip
           refine ⟨⟨k + 1, _, (by first | exact congrArg _ (wrap_up k HMi.out.1) | rfl), ⟨n2⟩, HMD, ⟨fun r k' h1 h2 h3 => ?_, fun k' h1 => ?_⟩, HBD⟩, ?_⟩
           · rw [if_neg (fun e => by omega)]; exact HVK.out.1 r k' h1 h2 h3
           · by_cases e : k' = k
             · rw [if_pos ⟨rfl, e⟩, e, HRU.out]
             · rw [if_neg (fun h => e h.2)]; exact HVK.out.2 k' (by omega)
           · first | (rw [wrap_up k HMi.out.1]; exact meas_up m k n2) | exact meas_up m k n2
         · have dd : decide (d > hh) = false := decide_eq_false hdh
           have dd2 : decide (hh < d) = false := decide_eq_false hdh
           rw [if_neg hdh] at HRU
           have HDH := Aside0.mk hdh
           clear hdh
           first | rw [dd2] | rw [dd]
           go_wp2
           have HMD := Aside0.mk (HMC.out.put i k (.int .i64 (mn 1 4503599627370496)) n1 (Nat.lt_succ_self i) n2)
           have HBD := Aside0.mk (below_set (g := B' i) (j := k) (v := .int .i64 (mn 1 4503599627370496)) HBC.out (HMC.out.rb i n1 (Nat.lt_succ_self i)).1)
           skip
           refine ⟨⟨k + 1, _, (by first | exact congrArg _ (wrap_up k HMi.out.1) | rfl), ⟨n2⟩, HMD, ⟨fun r k' h1 h2 h3 => ?_, fun k' h1 => ?_⟩, HBD⟩, ?_⟩
           · rw [if_neg (fun e => by omega)]; exact HVK.out.1 r k' h1 h2 h3
           · by_cases e : k' = k
             · rw [if_pos ⟨rfl, e⟩, e, HRU.out]
             · rw [if_neg (fun h => e h.2)]; exact HVK.out.2 k' (by omega)
           · first | (rw [wrap_up k HMi.out.1]; exact meas_up m k n2) | exact meas_up m k n2
     · obtain rfl : k = m := by have := HK.out; omega
       have hd : decide ((k : Int) < (k : Int)) = false := decide_eq_false (by omega)
       clear hj
       go_wp2
       refine ⟨⟨i + 1, B', V, congrArg _ (wrap_up i (by have := HJ.out; have := HN.out; omega)), ⟨n1⟩, HM, ⟨fun r k' h1 h2 h3 => ?_⟩, HB⟩, ?_⟩
       · by_cases hri : r = i
         · subst hri; exact HV.out.2 k' h3
         · exact HV.out.1 r k' (by omega) h2 h3
       · rw [wrap_up i (by have := HJ.out; have := HN.out; omega)]
         exact meas_up n i n1
  · obtain rfl : i = n := by have := HJ.out; omega
    have hd : decide ((i : Int) < (i : Int)) = false := decide_eq_false (by omega)
    clear hj
    have n5 : N1 < i := by have := HNM.out; have := HN.out; omega
    have n6 : M1 < m := by have := HNM.out; have := HM0.out; omega
    have k1 := HM.out.cell0 N1 n5 n5
    have k2 := HM.out.cell1 N1 M1 n5 n5 n6
    rw [HV.out N1 M1 n5 n5 n6] at k2
    have hla := fw_last HRo.out hh
    rw [← HE1.out.1, ← HE1.out.2, ← HNM.out.1, ← HNM.out.2] at hla
    rw [hla] at k2
    clear hla
    go_wp2
    go_ret2
    exact ⟨rfl, HB.out⟩
set_option maxRecDepth 100000 in
set_option maxHeartbeats 2000000 in
theorem refWalks_calls (A0 : Option Addr) (c0 : Nat) (a : List S59) (A1 : Option Addr) (c1 : Nat) (b : List S59) (x y : List S79) (hh r1 r2 : Int) (w : World) (hx : a.map ev = x) (hy : b.map ev = y) (hr0 : Kd.C k79 w A0 x.length x) (hc0 : x.length ≤ c0) (hr1 : Kd.C k79 w A1 y.length y) (hc1 : y.length ≤ c1) (h : align_Walks.f a b hh = some (r1, r2)) :
  Calls Try.prog 37 #[.slice A0 x.length c0, .slice A1 y.length c1, .int .i64 hh] w fun e w' => e = .returned (.tuple #[.int .i64 r1, .int .i64 r2]) ∧ Below w.heap.size w w' := by
 unfold align_Walks.f at h
 obtain ⟨e, he, h⟩ := Option.bind_eq_some_iff.1 h
 have h1 := Option.some.inj h
 have HCK := Aside0.mk (show pianolaref07_Check.f 40 x y = some e by rw [← hx, ← hy, refCheck_f a b 40 (by omega), he])
 have HR := Aside0.mk (And.intro hr0 hr1)
 have HC := Aside0.mk (And.intro hc0 hc1)
 by_cases h0 : e = 0
 · subst h0
   rw [if_pos rfl] at h1
   by_cases hz : hh < 0
   · rw [if_pos hz] at h1
     obtain ⟨rfl, rfl⟩ := Prod.mk.inj h1
     have z0 : decide (hh < 0) = true := decide_eq_true hz
     clear h h1 hz he hx hy hr0 hr1 hc0 hc1
     go_enter Try.func37, Try.ntmps37
     go_wp2_with (go_at_call 25; refine (pianolaref07_Check.calls 40 A0 c0 x A1 c1 y 0 _ HR.out.1 HC.out.1 HR.out.2 HC.out.2 HCK.out).mono ?_; rintro e w0 ⟨rfl, hd0⟩; have HB0 := Aside0.mk hd0.below; clear hd0)
     go_ret2
     exact ⟨rfl, HB0.out⟩
   · rw [if_neg hz] at h1
     obtain ⟨rfl, rfl⟩ := Prod.mk.inj h1
     have hla : a.length = x.length := by rw [← hx, List.length_map]
     have hlb : b.length = y.length := by rw [← hy, List.length_map]
     exact walksR_ok A0 c0 a A1 c1 b x.length y.length hh w hla.symm hlb.symm (by rw [hx]; exact HR.out.1) HC.out.1 (by rw [hy]; exact HR.out.2) HC.out.2 he hz
 · rw [if_neg h0] at h1
   obtain ⟨rfl, rfl⟩ := Prod.mk.inj h1
   have hb0 : (e != 0) = true := by simp [h0]
   clear h h1 h0 he hx hy hr0 hr1 hc0 hc1
   go_enter Try.func37, Try.ntmps37
   go_wp2_with (go_at_call 25; refine (pianolaref07_Check.calls 40 A0 c0 x A1 c1 y e _ HR.out.1 HC.out.1 HR.out.2 HC.out.2 HCK.out).mono ?_; rintro e' w0 ⟨rfl, hd0⟩; have HB0 := Aside0.mk hd0.below; clear hd0)
   go_ret2
   exact ⟨rfl, HB0.out⟩
end
end Go.Proofs.Ytkocigldchiifaa.H

/- Rolls and lists of pairs, opened; for the rows of chapter 07. -/
namespace Go.Proofs.Ytkocigldchiifaa.H
open Go.RowKit Go.Proofs.YtkocigldchiifaaW.PrintWords Go.Proofs.YtkocigldchiifaaW.PrintLast Go.Proofs.YtkocigldchiifaaW.PrintMore
open Go.ChangeShapes Go.WideShapes Go.Joins Go.Proofs.Ytkocigldchiifaa.QA
set_option linter.unusedVariables false
set_option linter.unusedSimpArgs false

theorem rowsOf {α : Type} {d : Kd α} {W : World} {a : Addr} {len cap : Nat} (hl : len ≤ cap) (hm : cap ≤ maxLen) (z : α) (P : α → Prop)
  (hq : ∀ i, i < len → ∃ (x : α) (c : List Value), P x ∧ d.K W x c ∧ ∀ j u, c[j]? = some u → W.cell? (a.add (i * d.sz + j)) = some u) :
  ∃ l : List α, len = l.length ∧ Kd.C d W (some a) l.length l ∧ ∀ x ∈ l, P x := by
 have hM : maxLen = 9223372036854775807 := rfl
 obtain ⟨F, hF⟩ : ∃ F : Nat → α, ∀ i, i < len → P (F i) ∧ ∃ c, d.K W (F i) c ∧ ∀ j u, c[j]? = some u → W.cell? (a.add (i * d.sz + j)) = some u :=
  ⟨fun i => if h : i < len then (hq i h).choose else z, fun i h => by
   dsimp only
   rw [dif_pos h]
   obtain ⟨c, h1, h2, h3⟩ := (hq i h).choose_spec
   exact ⟨h1, c, h2, h3⟩⟩
 refine ⟨(List.range len).map F, by simp, ⟨rfl, by simp; omega, fun _ => ⟨a, rfl, fun j p hj => ?_⟩⟩, fun x hx => ?_⟩
 · have hjl : j < len := by have := (List.getElem?_eq_some_iff.1 hj).1; simpa using this
   rw [List.getElem?_map, List.getElem?_range hjl] at hj
   obtain rfl := Option.some.inj hj
   obtain ⟨_, c, h1, h2⟩ := hF j hjl
   exact ⟨c, d.K_len h1, h1, h2⟩
 · obtain ⟨j, hj, rfl⟩ := List.mem_map.1 hx
   exact (hF j (by have := List.mem_range.1 hj; omega)).1
theorem trod_ev {H : Type} {enc : TypeId × Value → H} {w : World} {base : Nat} {spare : Nat → Bool} {held : Bool} {fuel : Nat} {c0 c1 c2 : Value} {x : DataW H × List MemPlace}
  (h : DataW.trod enc Try.prog w base spare held fuel 59 [c0, c1, c2] = some x) : ∃ y : S59, [c0, c1, c2] = [.int .i64 y.f0, .int .i64 y.f1, .int .i64 y.f2] := by
 have e3 : Try.prog.cellsOf 3 = 1 := by kernel_rfl
 obtain ⟨xs, m, _, _, _, hl, hi⟩ := DataW.trod_struct Try.underlying59 h
 match xs, hl with
 | [y0, y1, y2], _ =>
  have t0 := hi 0 _ rfl
  have t1 := hi 1 _ rfl
  have t2 := hi 2 _ rfl
  replace t0 : DataW.trod enc Try.prog w base spare held m 3 [c0] = some y0 := by simpa [e3] using t0
  replace t1 : DataW.trod enc Try.prog w base spare held m 3 [c1] = some y1 := by simpa [e3] using t1
  replace t2 : DataW.trod enc Try.prog w base spare held m 3 [c2] = some y2 := by simpa [e3] using t2
  obtain ⟨b0, r0, _, v0⟩ := DataW.trod_int Try.underlying3 t0
  obtain ⟨b1, r1, _, v1⟩ := DataW.trod_int Try.underlying3 t1
  obtain ⟨b2, r2, _, v2⟩ := DataW.trod_int Try.underlying3 t2
  simp only [List.cons.injEq, and_true] at r0 r1 r2
  subst r0 r1 r2
  exact ⟨⟨b0, b1, b2⟩, rfl⟩
theorem trod_pr {H : Type} {enc : TypeId × Value → H} {w : World} {base : Nat} {spare : Nat → Bool} {held : Bool} {fuel : Nat} {c0 c1 : Value} {x : DataW H × List MemPlace}
  (h : DataW.trod enc Try.prog w base spare held fuel 25 [c0, c1] = some x) : ∃ y : S25, [c0, c1] = [.int .i64 y.f0, .int .i64 y.f1] := by
 have e3 : Try.prog.cellsOf 3 = 1 := by kernel_rfl
 obtain ⟨xs, m, _, _, _, hl, hi⟩ := DataW.trod_struct Try.underlying25 h
 match xs, hl with
 | [y0, y1], _ =>
  have t0 := hi 0 _ rfl
  have t1 := hi 1 _ rfl
  replace t0 : DataW.trod enc Try.prog w base spare held m 3 [c0] = some y0 := by simpa [e3] using t0
  replace t1 : DataW.trod enc Try.prog w base spare held m 3 [c1] = some y1 := by simpa [e3] using t1
  obtain ⟨b0, r0, _, v0⟩ := DataW.trod_int Try.underlying3 t0
  obtain ⟨b1, r1, _, v1⟩ := DataW.trod_int Try.underlying3 t1
  simp only [List.cons.injEq, and_true] at r0 r1
  subst r0 r1
  exact ⟨⟨b0, b1⟩, rfl⟩
set_option maxRecDepth 100000 in
theorem open_roll {H : Type} {enc : TypeId × Value → H} {W : World} {r : Reach} {b0 : Nat} {v : Value} {d : DataW H} {p : List MemPlace}
  (hv : Value.okWide Try.prog W r b0 23 v) (h : DataW.Trod enc Try.prog W 0 (fun _ => true) true 23 v d p) :
  ∃ A c l, v = .slice A l.length c ∧ l.length ≤ c ∧ Kd.C k59 W A l.length l ∧ ∀ x ∈ l, True := by
 obtain ⟨A, n, c, rfl⟩ := okWide_slice Try.underlying23 hv
 have e59 : Try.prog.cellsOf 59 = 3 := by kernel_rfl
 have u23 : Try.prog.underlying 23 = some (.slice 59) := by kernel_rfl
 obtain ⟨fuel, hf⟩ := h
 rcases Go.Deep.open_slice u23 hf with ⟨hcs, _⟩ | ⟨a, len, cap, m, n3, D, Pl, hcs, _, hl, hm, hmm, _, hel⟩
 · simp [Value.cells] at hcs
   obtain ⟨rfl, rfl, rfl⟩ := hcs
   exact ⟨none, 0, [], rfl, Nat.le_refl _, Kd.C_nil _ _, fun x hx => by simp at hx⟩
 · simp [Value.cells] at hcs
   obtain ⟨rfl, rfl, rfl⟩ := hcs
   obtain ⟨l, rfl, hC, hw⟩ := rowsOf (d := k59) (W := W) (a := a) hl hm z59 (fun _ => True) (fun i hi => by
    obtain ⟨cs', k1, k2⟩ := hel i (by rw [hmm]; simp; omega)
    rw [e59] at k1
    obtain ⟨_, kl, kc⟩ := World.cells?_some k1
    match cs', kl with
    | [x0, x1, x2], _ =>
     obtain ⟨y, hy⟩ := trod_ev k2
     refine ⟨y, [x0, x1, x2], trivial, by rw [hy]; exact k59_mk _ _, fun j u hu => ?_⟩
     have hj : j < 3 := (List.getElem?_eq_some_iff.1 hu).1
     have := kc j hj
     rw [Addr.add_add] at this
     rw [← hu]
     exact this)
   exact ⟨some a, _, l, rfl, hl, hC, hw⟩
set_option maxRecDepth 100000 in
theorem open_pairs {H : Type} {enc : TypeId × Value → H} {W : World} {r : Reach} {b0 : Nat} {v : Value} {d : DataW H} {p : List MemPlace}
  (hv : Value.okWide Try.prog W r b0 38 v) (h : DataW.Trod enc Try.prog W 0 (fun _ => true) true 38 v d p) :
  ∃ A c l, v = .slice A l.length c ∧ l.length ≤ c ∧ Kd.C k25 W A l.length l ∧ ∀ x ∈ l, True := by
 obtain ⟨A, n, c, rfl⟩ := okWide_slice Try.underlying38 hv
 have e25 : Try.prog.cellsOf 25 = 2 := by kernel_rfl
 have u38 : Try.prog.underlying 38 = some (.slice 25) := by kernel_rfl
 obtain ⟨fuel, hf⟩ := h
 rcases Go.Deep.open_slice u38 hf with ⟨hcs, _⟩ | ⟨a, len, cap, m, n3, D, Pl, hcs, _, hl, hm, hmm, _, hel⟩
 · simp [Value.cells] at hcs
   obtain ⟨rfl, rfl, rfl⟩ := hcs
   exact ⟨none, 0, [], rfl, Nat.le_refl _, Kd.C_nil _ _, fun x hx => by simp at hx⟩
 · simp [Value.cells] at hcs
   obtain ⟨rfl, rfl, rfl⟩ := hcs
   obtain ⟨l, rfl, hC, hw⟩ := rowsOf (d := k25) (W := W) (a := a) hl hm z25 (fun _ => True) (fun i hi => by
    obtain ⟨cs', k1, k2⟩ := hel i (by rw [hmm]; simp; omega)
    rw [e25] at k1
    obtain ⟨_, kl, kc⟩ := World.cells?_some k1
    match cs', kl with
    | [x0, x1], _ =>
     obtain ⟨y, hy⟩ := trod_pr k2
     refine ⟨y, [x0, x1], trivial, by rw [hy]; exact k25_mk _ _, fun j u hu => ?_⟩
     have hj : j < 2 := (List.getElem?_eq_some_iff.1 hu).1
     have := kc j hj
     rw [Addr.add_add] at this
     rw [← hu]
     exact this)
   exact ⟨some a, _, l, rfl, hl, hC, hw⟩
end Go.Proofs.Ytkocigldchiifaa.H
