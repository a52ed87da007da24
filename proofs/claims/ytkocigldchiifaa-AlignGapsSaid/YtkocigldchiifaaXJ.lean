/- Texts PB, HP, PC, TA of this chapter, one behind the other. -/
import Derived.Laws.IdiomArrays
import Derived.Lib.SmallJoins
import Derived.Maps.AppendAt
import Derived.OpenShut
import Derived.Test.YtkocigldchiifaaQA0
import Derived.Test.YtkocigldchiifaaQA10
import Derived.Test.YtkocigldchiifaaQA9
import Derived.Test.YtkocigldchiifaaXB
import Derived.Test.YtkocigldchiifaaXD
import Derived.Test.YtkocigldchiifaaXE
import Derived.Test.YtkocigldchiifaaXG
import Derived.Test.YtkocigldchiifaaXH
import Derived.Test.YtkocigldchiifaaXI

/- What the reference answers is what the program answers: checks, distances, gaps, walks. -/
namespace Go.Proofs.Ytkocigldchiifaa.H
open Go.RowKit Go.Proofs.YtkocigldchiifaaW.PrintWords Go.Proofs.YtkocigldchiifaaW.PrintLast Go.Proofs.YtkocigldchiifaaW.PrintMore
open Go.Shelf Go.Proofs.Ytkocigldchiifaa.QA
set_option linter.unusedVariables false
set_option linter.unusedSimpArgs false

theorem is_f (x lo hi : Int) : pianolaref07_is.f x lo hi = some (isIn lo x hi) := by
 unfold pianolaref07_is.f pianolaref01_Is.f isIn
 by_cases h : x ≥ lo
 · rw [if_pos h]; simp; omega
 · rw [if_neg h]; simp; omega
theorem checked_l (l : List S59) (hl : l.length ≤ 30) : ∀ (n j k : Nat), l.length - j = n → j ≤ l.length → n + 1 ≤ k → pianolaref07_checked.l0 k (l.map ev) (j : Int) = some (if (l.drop j).any (fun x => !goodB x) = true then 3 else 0) := by
 intro n
 induction n with
 | zero =>
  intro j k h1 h2 h3
  obtain ⟨k, rfl⟩ : ∃ k', k = k' + 1 := ⟨k - 1, by omega⟩
  unfold pianolaref07_checked.l0
  rw [List.length_map, if_neg (by omega), List.drop_eq_nil_of_le (by omega)]
  rfl
 | succ n ih =>
  intro j k h1 h2 h3
  obtain ⟨k, rfl⟩ : ∃ k', k = k' + 1 := ⟨k - 1, by omega⟩
  unfold pianolaref07_checked.l0
  rw [List.length_map, if_pos (by omega), if_pos (by omega), rd_ev]
  have hlt : j < l.length := by omega
  have hd : l.drop j = rd_T59 l j :: l.drop (j + 1) := by
   rw [List.drop_eq_getElem_cons hlt]
   unfold rd_T59
   rw [Int.toNat_natCast, List.getD_eq_getElem?_getD, List.getElem?_eq_getElem hlt]
   rfl
  rw [hd, List.any_cons]
  have hw : wrap64 ((j : Int) + 1) = ((j + 1 : Nat) : Int) := wrap_up j (by omega)
  have hi := ih (j + 1) k (by omega) (by omega) (by omega)
  rw [hw, hi]
  simp only [is_f, Option.bind_some]
  show (if isIn 1 (rd_T59 l j).f0 88 = true then (if isIn 0 (rd_T59 l j).f1 1000 = true then (if isIn 0 (rd_T59 l j).f2 1000 = true then _ else _) else _) else _) = _
  unfold goodB
  cases isIn 1 (rd_T59 l j).f0 88 <;> cases isIn 0 (rd_T59 l j).f1 1000 <;> cases isIn 0 (rd_T59 l j).f2 1000 <;> simp
theorem checked_f (l : List S59) (k : Nat) (hk : 40 ≤ k) : pianolaref07_checked.f k (l.map ev) = some (chk l) := by
 unfold pianolaref07_checked.f chk
 rw [List.length_map]
 by_cases h0 : l.length = 0
 · rw [if_pos (by omega), if_pos h0]
 · rw [if_neg (by omega), if_neg h0]
   by_cases h1 : 30 < l.length
   · rw [if_pos (by omega), if_pos h1]
   · rw [if_neg (by omega), if_neg h1]
     exact checked_l l (by omega) l.length 0 k (by omega) (by omega) (by omega)
theorem refCheck_f (a b : List S59) (k : Nat) (hk : 40 ≤ k) : pianolaref07_Check.f k (a.map ev) (b.map ev) = align_Check.f a b := by
 unfold pianolaref07_Check.f align_Check.f
 rw [checked_f a k hk, checked_f b k hk]
 show (if chk a = 0 then _ else _) = _
 by_cases h : chk a = 0
 · rw [if_pos h, if_pos h]; rfl
 · rw [if_neg h, if_neg h]
theorem paired_f {a b : List S59} (hR : Rolls a b) (p q : Int) : pianolaref07_paired.f (a.map ev) (b.map ev) p q = some (hasP a b p q) := by
 have h0 := hR.ha
 have h1 := hR.hb
 unfold pianolaref07_paired.f hasP
 rw [is_f, is_f, List.length_map, List.length_map, w64' _ (by omega) (by omega), w64' _ (by omega) (by omega)]
 show (if isIn 0 p _ = true then some (isIn 0 q _) else some false) = _
 cases isIn 0 p ((a.length : Int) - 1) <;> simp
theorem refDistance_f (a b : List S59) (p q : Int) (k : Nat) (hk : 40 ≤ k) : pianolaref07_Distance.f k (a.map ev) (b.map ev) p q = align_Distance.f a b p q := by
 unfold pianolaref07_Distance.f align_Distance.f
 rw [refCheck_f a b k hk]
 cases hc : align_Check.f a b with
 | none => rfl
 | some e =>
  show (if e = 0 then _ else _) = some (if e = 0 then _ else _)
  by_cases he : e = 0
  · subst he
    have hR := rolls_of hc
    rw [if_pos rfl, if_pos rfl, paired_f hR]
    show (if hasP a b p q = true then _ else _) = some (if hasP a b p q = true then _ else _)
    by_cases hp : hasP a b p q = true
    · obtain ⟨h1, h2⟩ := (hasP_iff a b p q).1 hp
      rw [if_pos hp, if_pos hp, List.length_map, List.length_map, if_pos h1.1, if_pos h1.2, if_pos h2.1, if_pos h2.2, rd_ev, rd_ev]
      have := dist_f (rd_good hR.ga p h1) (rd_good hR.gb q h2)
      show (pianolaref07_distance.f (rd_T59 a p).f0 (rd_T59 a p).f1 (rd_T59 a p).f2 (rd_T59 b q).f0 (rd_T59 b q).f1 (rd_T59 b q).f2).bind _ = _
      rw [this]
      rfl
    · rw [if_neg hp, if_neg hp]
  · rw [if_neg he, if_neg he]
theorem rests_f {a b : List S59} (hc : align_Check.f a b = some 0) : pianolaref07_rests.f (a.map ev) (b.map ev) = some (restsM a b) := by
 unfold pianolaref07_rests.f
 rw [vE_ev, vE_ev, if_pos hc]
theorem restsM_len (a b : List S59) : (restsM a b).length = a.length := by simp [restsM]
theorem restsM_row (a b : List S59) (i : Int) (hi : 0 ≤ i ∧ i < a.length) : rd_L4 (restsM a b) i = (List.range b.length).map fun (k : Nat) => restI a b i (k : Int) := by
 unfold rd_L4 restsM
 rw [List.getD_eq_getElem?_getD, List.getElem?_map, List.getElem?_range (by omega)]
 simp only [Option.map_some, Option.getD_some]
 rw [show ((i.toNat : Nat) : Int) = i by omega]
theorem restsM_at (a b : List S59) (i k : Int) (hi : 0 ≤ i ∧ i < a.length) (hk : 0 ≤ k ∧ k < b.length) : (rd_L4 (restsM a b) i).length = b.length ∧ rd (rd_L4 (restsM a b) i) k = restI a b i k := by
 rw [restsM_row a b i hi]
 refine ⟨by simp, ?_⟩
 unfold rd
 rw [List.getD_eq_getElem?_getD, List.getElem?_map, List.getElem?_range (by omega)]
 simp only [Option.map_some, Option.getD_some]
 rw [show ((k.toNat : Nat) : Int) = k by omega]
theorem refGap_f (a b : List S59) (k : Nat) (hk : 40 ≤ k) : pianolaref07_Gap.f k (a.map ev) (b.map ev) = align_Gap.f a b := by
 unfold pianolaref07_Gap.f align_Gap.f
 rw [refCheck_f a b k hk]
 cases hc : align_Check.f a b with
 | none => rfl
 | some e =>
  show (if e = 0 then _ else _) = some (if e = 0 then _ else _)
  by_cases he : e = 0
  · subst he
    have hR := rolls_of hc
    have h0 := hR.ha
    have h1 := hR.hb
    obtain ⟨g1, g2⟩ := restsM_at a b 0 0 (by omega) (by omega)
    rw [if_pos rfl, if_pos rfl, rests_f hc]
    show (if _ then (if _ then _ else _) else _) = _
    rw [restsM_len, if_pos (by omega), g1, if_pos (by omega), g2]
  · rw [if_neg he, if_neg he]

end Go.Proofs.Ytkocigldchiifaa.H

/- given and listed: lists turned into the reference's. -/
namespace Go.Proofs.Ytkocigldchiifaa.H
open Go.RowKit Go.Proofs.YtkocigldchiifaaW.PrintWords Go.Proofs.YtkocigldchiifaaW.PrintLast Go.Proofs.YtkocigldchiifaaW.PrintMore
open Go.Shelf Go.Proofs.Ytkocigldchiifaa.QA
set_option linter.unusedVariables false
set_option linter.unusedSimpArgs false

/-- A pair, as the reference has it. -/
def pr (q : S25) : S35 := ⟨q.f0, q.f1⟩
theorem info79 : (Try.prog.info? 79).map (fun i => (i.zero, i.size, i.bytes)) = some (some (.agg #[(.int .i64 0), (.int .i64 0), (.int .i64 0)]), 3, 24) := by kernel_rfl
/-- An own row of the reference's. -/
def OwnR (W : World) (base : Nat) (v : Value) (xs : List S59) : Prop := W.ownsRow base 79 3 v xs.length (cellsE xs)
theorem OwnR_reps (w : World) (base : Nat) (ok : Nat → Prop) (xs : List S59) : Reps (k79.M w base ok) 3 (xs.map ev) (cellsE xs) := by
 have h : ∀ (ys zs : List S59), Reps (k79.M w base ok) 3 (ys.map ev) (cellsE ys) → Reps (k79.M w base ok) 3 ((ys ++ zs).map ev) (cellsE (ys ++ zs)) := fun ys zs => by
  induction zs generalizing ys with
  | nil => intro h; simpa using h
  | cons z zs ih =>
   intro h
   have := ih (ys ++ [z]) (by
    have h2 := h.snoc (p := ev z) (c := [.int .i64 z.f0, .int .i64 z.f1, .int .i64 z.f2]) (k79_mkM w base ok (ev z)) rfl
    simpa [cellsE] using h2)
   simpa using this
 simpa using h [] xs (Reps.none _ _)
theorem OwnR.R {W : World} {base : Nat} {v : Value} {xs : List S59} (h : OwnR W base v xs) : Kd.R k79 79 W base (fun _ => True) v (xs.map ev) := ⟨fun _ _ => trivial, cellsE xs, by rw [List.length_map]; exact h, OwnR_reps _ _ _ xs⟩
theorem OwnR.below {W W' : World} {base : Nat} {v : Value} {xs : List S59} (h : OwnR W base v xs) (hb : Below W.heap.size W W') : OwnR W' base v xs := by
 obtain ⟨h1, h2⟩ := h
 refine ⟨h1, ?_⟩
 rcases h2 with h2 | ⟨g, cap, cur, h3, h4, h5, h6⟩
 · exact .inl h2
 · exact .inr ⟨g, cap, cur, h3, h4, (hb.block g (Array.getElem?_eq_some_iff.1 h5).1).trans h5, h6⟩
theorem wpList_append_OwnR {ops : Array Oper} {rest : List Oper} {o : Oper} {a : Act} {Q : Exit → Act → World → Prop} {W : World} (hgd : o.guard = none) (s x : Operand)
  (ho : o.op = .call { callee := .builtin .append, args := #[s, x], argTypes := #[29, 29] }) (base : Nat) (v : Value) (xs ys : List S59) (hs : a.eval s = v) (hv : OwnR W base v xs) (ad : Addr) (m c : Nat) (hx : a.eval x = .slice (some ad) m c) (hm : m = ys.length)
  (hc : ∀ j u, (cellsE ys)[j]? = some u → W.cell? (ad.add j) = some u) (hl : xs.length + m ≤ 1000000) (hb : base ≤ W.heap.size)
  (h : ∀ v' w', OwnR w' base v' (xs ++ ys) → Below base W w' → W.grownBy w' v.ownBlock → wpList Try.prog ops Q rest (a.put o.dst v') w') : wpList Try.prog ops Q (o :: rest) a W := by
 obtain ⟨i0, hi, hz0, hz1, hz2⟩ := info_parts info79
 have hM : maxLen = 9223372036854775807 := rfl
 refine wpList_append_own_at _ hgd s x 29 ho base 79 i0 (.agg #[(.int .i64 0), (.int .i64 0), (.int .i64 0)]) 3 24 Try.underlying29 hi hz0 hz1 hz2 rfl (by decide) v xs.length (cellsE xs) hs hv ad m c (cellsE ys) hx (by rw [cellsE_len, hm]) hc (cellsE_one ys) (by omega) (by omega) hb ?_
 intro v' w' h1 h2 h3 h4
 refine h v' w' ?_ ((Below.refl _ _).grown h2 hb (fun j ej => own_base hv j ej)) h2
 unfold OwnR
 rw [cellsE_append, List.length_append, ← hm]
 exact h1
set_option maxRecDepth 100000 in
set_option maxHeartbeats 2000000 in
theorem pianolalaw07_given_calls (A0 : Option Addr) (c0 : Nat) (l : List S59) (w : World) (hr0 : Kd.C k59 w A0 l.length l) (hc0 : l.length ≤ c0) (hl : l.length ≤ 5000) :
  Calls Try.prog 16 #[.slice A0 l.length c0] w fun e w' => ∃ v : Value, e = .returned v ∧ Kd.R k79 79 w' w.heap.size (fun _ => True) v (l.map ev) ∧ Below w.heap.size w w' := by
 have hu59 := Try.underlying59
 have hu25 := Try.underlying25
 have HR := Aside0.mk hr0
 have HC := Aside0.mk hc0
 have HL := Aside0.mk hl
 clear hr0 hc0 hl
 go_enter Try.func16, Try.ntmps16
 go_wp2
 go_loopw [3, 4] (fun s0 s1 wr => ∃ i : Nat, i ≤ l.length ∧ s1 = .int .i64 i ∧ Aside0 (OwnR wr w.heap.size s0 (l.take i)) ∧ Aside0 (Below w.heap.size w wr)) (fun _ s1 _ => l.length - (intOf s1).toNat)
 case atStart => exact ⟨0, by omega, rfl, ⟨⟨rfl, .inl ⟨rfl, rfl⟩⟩⟩, ⟨Below.refl _ _⟩⟩
 case round =>
  obtain ⟨i, hi, rfl, HO, HB⟩ := hrel
  by_cases hlt : i < l.length
  · have hd : decide ((i : Int) < (l.length : Int)) = true := decide_eq_true (Int.ofNat_lt.2 hlt)
    obtain ⟨ad2, had, x0, x1, x2⟩ := at_T59 (Kd.C_below HR.out HB.out) (i : Int) (Int.natCast_nonneg i) (Int.ofNat_lt.2 hlt)
    cases had
    have hsn : l.take i ++ [rd_T59 l (i : Int)] = l.take (i + 1) := by
     rw [List.take_add_one]
     unfold rd_T59
     rw [Int.toNat_natCast, List.getD_eq_getElem?_getD, List.getElem?_eq_getElem hlt]
     rfl
    rw [Int.toNat_natCast] at x0 x1 x2
    generalize hp : rd_T59 l (i : Int) = p at x0 x1 x2 hsn
    have HS := Aside0.mk hsn
    have HJ := Aside0.mk hlt
    clear hp hsn
    go_wp2_with (at_builtin; refine Aside0.out ?_)
    refine ⟨?_⟩
    have hb3 := below_alloc (Below.refl wr.heap.size wr) (.cells #[.int .i64 p.f0, .int .i64 p.f1, .int .i64 p.f2] 79)
    refine wpList_append_OwnR rfl _ _ rfl w.heap.size _ (l.take i) [p] rfl (HO.out.below hb3) ⟨wr.heap.size, 0, none⟩ 1 1 rfl rfl (fun k u hu => by simpa using World.news_of_block (cs := #[.int .i64 p.f0, .int .i64 p.f1, .int .i64 p.f2]) (t := 79) (fr := (0, 0)) (heap_alloc_new wr (.cells #[.int .i64 p.f0, .int .i64 p.f1, .int .i64 p.f2] 79)) k u (by simpa [cellsE] using hu)) (by have := HJ.out; have := HL.out; rw [List.length_take]; omega) (Nat.le_trans HB.out.size hb3.size) ?_
    intro v4 w4 hO4 hb4 hg4
    go_wp2
    rw [HS.out] at hO4
    have hb5 : Below w.heap.size w w4 := (HB.out.trans (hb3.mono HB.out.size)).trans hb4
    clear hd
    rw [wrap_up i (by have := HL.out; omega)]
    refine ⟨⟨i + 1, hlt, rfl, ⟨hO4⟩, ⟨hb5⟩⟩, ?_⟩
    show l.length - (((i + 1 : Nat) : Int)).toNat < l.length - ((i : Int)).toNat
    omega
  · have hd : decide ((i : Int) < (l.length : Int)) = false := decide_eq_false (fun h => hlt (Int.ofNat_lt.1 h))
    obtain rfl : i = l.length := Nat.le_antisymm hi (Nat.le_of_not_lt hlt)
    have HOx := HO.out
    rw [List.take_length] at HOx
    have HO2 := Aside0.mk HOx
    clear HOx HO hlt
    go_wp2
    go_ret
    exact ⟨_, rfl, HO2.out.R, HB.out⟩

/-- An own row of the reference's. -/
def OwnQ (W : World) (base : Nat) (v : Value) (xs : List S25) : Prop := W.ownsRow base 35 2 v xs.length (cellsP xs)
theorem OwnQ_reps (w : World) (base : Nat) (ok : Nat → Prop) (xs : List S25) : Reps (k35.M w base ok) 2 (xs.map pr) (cellsP xs) := by
 have h : ∀ (ys zs : List S25), Reps (k35.M w base ok) 2 (ys.map pr) (cellsP ys) → Reps (k35.M w base ok) 2 ((ys ++ zs).map pr) (cellsP (ys ++ zs)) := fun ys zs => by
  induction zs generalizing ys with
  | nil => intro h; simpa using h
  | cons z zs ih =>
   intro h
   have := ih (ys ++ [z]) (by
    have h2 := h.snoc (p := pr z) (c := [.int .i64 z.f0, .int .i64 z.f1]) (k35_mkM w base ok (pr z)) rfl
    simpa [cellsP] using h2)
   simpa using this
 simpa using h [] xs (Reps.none _ _)
theorem OwnQ.R {W : World} {base : Nat} {v : Value} {xs : List S25} (h : OwnQ W base v xs) : Kd.R k35 35 W base (fun _ => True) v (xs.map pr) := ⟨fun _ _ => trivial, cellsP xs, by rw [List.length_map]; exact h, OwnQ_reps _ _ _ xs⟩
theorem OwnQ.below {W W' : World} {base : Nat} {v : Value} {xs : List S25} (h : OwnQ W base v xs) (hb : Below W.heap.size W W') : OwnQ W' base v xs := by
 obtain ⟨h1, h2⟩ := h
 refine ⟨h1, ?_⟩
 rcases h2 with h2 | ⟨g, cap, cur, h3, h4, h5, h6⟩
 · exact .inl h2
 · exact .inr ⟨g, cap, cur, h3, h4, (hb.block g (Array.getElem?_eq_some_iff.1 h5).1).trans h5, h6⟩
end Go.Proofs.Ytkocigldchiifaa.H

/- The reference's walk is the program's. -/
namespace Go.Proofs.Ytkocigldchiifaa.H
open Go.RowKit Go.Proofs.YtkocigldchiifaaW.PrintWords Go.Proofs.YtkocigldchiifaaW.PrintLast Go.Proofs.YtkocigldchiifaaW.PrintMore
open Go.Shelf Go.Proofs.Ytkocigldchiifaa.QA
set_option linter.unusedVariables false
set_option linter.unusedSimpArgs false

section
variable {a b : List S59}
theorem walk_step (hR : Rolls a b) (k : Nat) (x9 x10 : List S35) (j : Nat) (i0 k0 : Int) (q : S25) (hj : j < x10.length) (hs : j ≤ 10) (hq : rd_T35 x10 (j : Int) = pr q) (h9 : x9.length ≤ 1000) :
  pianolaref07_Walk.l1 (k + 1) (a.map ev) (b.map ev) (restsM a b) x9 x10 (j : Int) i0 k0 = if (hasP a b q.f0 q.f1 && fitsW a b q) = true then pianolaref07_Walk.l0 k (a.map ev) (b.map ev) (restsM a b) (x9 ++ [pr q]) q.f0 q.f1 else pianolaref07_Walk.l1 k (a.map ev) (b.map ev) (restsM a b) x9 x10 ((j + 1 : Nat) : Int) i0 k0 := by
 have e0 := hR.ha
 have e1 := hR.hb
 rw [pianolaref07_Walk.l1, if_pos (by omega), if_pos (by omega), hq, wrap_up j (by omega)]
 show (pianolaref07_paired.f (a.map ev) (b.map ev) q.f0 q.f1).bind _ = _
 rw [paired_f hR]
 show (if hasP a b q.f0 q.f1 = true then _ else _) = _
 by_cases hp : hasP a b q.f0 q.f1 = true
 · obtain ⟨h1, h2⟩ := (hasP_iff a b _ _).1 hp
   obtain ⟨g1, g2⟩ := restsM_at a b 0 0 (by omega) (by omega)
   obtain ⟨g3, g4⟩ := restsM_at a b q.f0 q.f1 h1 h2
   rw [if_pos hp]
   show (if 0 ≤ q.f0 then (if q.f0 < _ then (if 0 ≤ q.f1 then (if q.f1 < ((rd_L4 (restsM a b) q.f0).length : Int) then (if _ then (if _ then (if rd (rd_L4 (restsM a b) q.f0) q.f1 ≤ _ then _ else _) else _) else _) else _) else _) else _) else _) = _
   rw [restsM_len, g1, g2, g3, g4, if_pos h1.1, if_pos h1.2, if_pos h2.1, if_pos h2.2, if_pos (by omega), if_pos (by omega)]
   by_cases hf : restI a b q.f0 q.f1 ≤ restI a b 0 0
   · rw [if_pos hf, if_pos (by omega), if_pos (by rw [hp]; unfold fitsW; simp [hf])]
     rfl
   · rw [if_neg hf, if_neg (by rw [hp]; unfold fitsW; simp [hf])]
 · rw [if_neg hp, if_neg (by simp [hp])]
theorem walk_l0 (hR : Rolls a b) : ∀ (n : Nat) (k : Nat) (x9 : List S35) (i k0 : Int), (0 ≤ i ∧ i < a.length) → (0 ≤ k0 ∧ k0 < b.length) → restI a b i k0 ≤ restI a b 0 0 → ((a.length : Int) - 1 - i) + ((b.length : Int) - 1 - k0) < n → 6 * n ≤ k → x9.length + n ≤ 1000 →
  pianolaref07_Walk.l0 k (a.map ev) (b.map ev) (restsM a b) x9 i k0 = some (x9 ++ (walkFrom a b n i k0).map pr, 0) := by
 intro n
 induction n with
 | zero => intro k x9 i k0 hi hk _ h; omega
 | succ n ih =>
  intro k x9 i k0 hi hk hg hn hf h9
  have e0 := hR.ha
  have e1 := hR.hb
  obtain ⟨k, rfl⟩ : ∃ k', k = k' + 5 := ⟨k - 5, by omega⟩
  have w1 : wrap64 ((a.length : Int) - 1) = (a.length : Int) - 1 := w64' _ (by omega) (by omega)
  have w2 : wrap64 ((b.length : Int) - 1) = (b.length : Int) - 1 := w64' _ (by omega) (by omega)
  have w3 : wrap64 (i + 1) = i + 1 := w64' _ (by omega) (by omega)
  have w4 : wrap64 (k0 + 1) = k0 + 1 := w64' _ (by omega) (by omega)
  have hj1 : pianolaref07_Walk.l0 (k + 5) (a.map ev) (b.map ev) (restsM a b) x9 i k0 = pianolaref07_Walk.j1 (k + 4) (a.map ev) (b.map ev) (restsM a b) x9 (decide (¬ (i = (a.length : Int) - 1 ∧ k0 = (b.length : Int) - 1))) i k0 := by
   rw [pianolaref07_Walk.l0, List.length_map, List.length_map, w1, w2]
   by_cases c : i < (a.length : Int) - 1
   · rw [if_pos c, decide_eq_true (show ¬ (i = (a.length : Int) - 1 ∧ k0 = (b.length : Int) - 1) by omega)]
   · rw [if_neg c]
     congr 1
     rw [decide_eq_decide]
     omega
  rw [hj1, pianolaref07_Walk.j1]
  unfold walkFrom
  by_cases hl : i = (a.length : Int) - 1 ∧ k0 = (b.length : Int) - 1
  · rw [if_neg (by simp [hl]), if_pos hl]
    simp
  · rw [if_pos (decide_eq_true hl), if_neg hl, w3, w4]
    obtain ⟨q, hq, hqm, hqg⟩ := next_some a b hR i k0 hi hk hl hg
    rw [hq]
    obtain ⟨hqp, hqs⟩ := moves_mem hqm
    obtain ⟨p1, p2⟩ := (hasP_iff a b _ _).1 hqp
    have hrec : ∀ k', 6 * n ≤ k' → pianolaref07_Walk.l0 k' (a.map ev) (b.map ev) (restsM a b) (x9 ++ [pr q]) q.f0 q.f1 = some (x9 ++ ((q :: walkFrom a b n q.f0 q.f1).map pr), 0) := fun k' hk' => by
     rw [ih k' (x9 ++ [pr q]) q.f0 q.f1 p1 p2 hqg (by rcases hqs with rfl | rfl | rfl <;> simp only <;> omega) hk' (by simp; omega)]
     simp
    unfold nextOf movesOf movesTo cand at hq
    simp only [List.take_succ_cons, List.take_zero] at hq
    rw [List.find?_filter] at hq
    simp only [Bool.decide_and, Bool.decide_eq_true] at hq
    have hx10 : ([(⟨i + 1, k0 + 1⟩ : S35), (⟨i + 1, k0⟩ : S35), (⟨i, k0 + 1⟩ : S35)] : List S35) = [pr ⟨i + 1, k0 + 1⟩, pr ⟨i + 1, k0⟩, pr ⟨i, k0 + 1⟩] := rfl
    rw [hx10]
    show pianolaref07_Walk.l1 (k + 2 + 1) _ _ _ _ _ ((0 : Nat) : Int) _ _ = _
    rw [walk_step hR (k + 2) x9 _ 0 i k0 ⟨i + 1, k0 + 1⟩ (by simp) (by omega) rfl (by omega)]
    rw [List.find?_cons] at hq
    cases c0 : (hasP a b (i + 1) (k0 + 1) && fitsW a b ⟨i + 1, k0 + 1⟩) with
    | true =>
     rw [c0] at hq
     obtain rfl := Option.some.inj hq
     rw [if_pos rfl]
     exact hrec _ (by omega)
    | false =>
     rw [c0] at hq
     rw [if_neg (by simp)]
     show pianolaref07_Walk.l1 (k + 1 + 1) _ _ _ _ _ ((1 : Nat) : Int) _ _ = _
     rw [walk_step hR (k + 1) x9 _ 1 i k0 ⟨i + 1, k0⟩ (by simp) (by omega) rfl (by omega)]
     dsimp only at hq
     rw [List.find?_cons] at hq
     cases c1 : (hasP a b (i + 1) k0 && fitsW a b ⟨i + 1, k0⟩) with
     | true =>
      rw [c1] at hq
      obtain rfl := Option.some.inj hq
      rw [if_pos rfl]
      exact hrec _ (by omega)
     | false =>
      rw [c1] at hq
      rw [if_neg (by simp)]
      show pianolaref07_Walk.l1 (k + 1) _ _ _ _ _ ((2 : Nat) : Int) _ _ = _
      rw [walk_step hR k x9 _ 2 i k0 ⟨i, k0 + 1⟩ (by simp) (by omega) rfl (by omega)]
      dsimp only at hq
      rw [List.find?_cons] at hq
      cases c2 : (hasP a b i (k0 + 1) && fitsW a b ⟨i, k0 + 1⟩) with
      | true =>
       rw [c2] at hq
       obtain rfl := Option.some.inj hq
       rw [if_pos rfl]
       exact hrec _ (by omega)
      | false =>
       rw [c2] at hq
       cases hq
theorem walkFrom_len (n : Nat) : ∀ (i k : Int), (walkFrom a b n i k).length ≤ n := by
 induction n with
 | zero => intro i k; simp [walkFrom]
 | succ n ih =>
  intro i k
  unfold walkFrom
  split
  · simp
  · split
    · have := ih
      rename_i q _
      have := this q.f0 q.f1
      simp
      omega
    · simp
end
theorem refWalk_f (a b : List S59) (k : Nat) (hk : 400 ≤ k) : pianolaref07_Walk.f k (a.map ev) (b.map ev) = (align_Walk.f a b).map fun r => (r.1.map pr, r.2) := by
 unfold pianolaref07_Walk.f align_Walk.f
 rw [refCheck_f a b k (by omega)]
 cases hc : align_Check.f a b with
 | none => rfl
 | some e =>
  show (if e = 0 then _ else _) = some _
  by_cases he : e = 0
  · subst he
    have hR := rolls_of hc
    have h0 := hR.ha
    have h1 := hR.hb
    rw [if_pos rfl, rests_f hc]
    show pianolaref07_Walk.l0 k (a.map ev) (b.map ev) (restsM a b) _ 0 0 = _
    rw [walk_l0 hR (a.length + b.length) k [⟨0, 0⟩] 0 0 (by omega) (by omega) (Int.le_refl _) (by omega) (by omega) (by simp; omega)]
    rw [if_pos rfl]
    rfl
  · rw [if_neg he, if_neg he]
    rfl
theorem walkOf_len (a b : List S59) : (walkOf a b).length ≤ a.length + b.length + 1 := by
 unfold walkOf
 have := walkFrom_len (a := a) (b := b) (a.length + b.length) 0 0
 simp
 omega
theorem rd_prW (l : List S25) (i : Int) : rd_T35 (l.map pr) i = pr (rd_T25 l i) := by
 unfold rd_T35 rd_T25
 rw [List.getD_eq_getElem?_getD, List.getElem?_map, List.getD_eq_getElem?_getD]
 cases l[i.toNat]? <;> rfl
theorem same_l (l : List S25) (hl : l.length ≤ 1000) : ∀ (n j k : Nat), l.length - j = n → n + 1 ≤ k → j ≤ l.length → pianolalaw07_same.l0 k l (l.map pr) (j : Int) = some true := by
 intro n
 induction n with
 | zero =>
  intro j k h1 h2 h3
  obtain ⟨k, rfl⟩ : ∃ k', k = k' + 1 := ⟨k - 1, by omega⟩
  unfold pianolalaw07_same.l0
  rw [if_neg (by omega)]
 | succ n ih =>
  intro j k h1 h2 h3
  obtain ⟨k, rfl⟩ : ∃ k', k = k' + 1 := ⟨k - 1, by omega⟩
  unfold pianolalaw07_same.l0
  rw [if_pos (by omega), if_pos (by omega), List.length_map, if_pos (by omega), rd_prW, if_neg (by simp [pr]), wrap_up j (by omega)]
  exact ih (j + 1) k (by omega) (by omega) (by omega)
theorem same_f (l : List S25) (k : Nat) (hl : l.length ≤ 1000) (hk : l.length + 1 ≤ k) : pianolalaw07_same.f k l (l.map pr) = some true := by
 unfold pianolalaw07_same.f
 rw [List.length_map, if_pos rfl]
 exact same_l l hl l.length 0 k (by omega) hk (by omega)

end Go.Proofs.Ytkocigldchiifaa.H

/- Rolls and lists of pairs, opened; for the rows of chapter 07. -/
namespace Go.Proofs.Ytkocigldchiifaa.H
open Go.RowKit Go.Proofs.YtkocigldchiifaaW.PrintWords Go.Proofs.YtkocigldchiifaaW.PrintLast Go.Proofs.YtkocigldchiifaaW.PrintMore
open Go.ChangeShapes Go.WideShapes Go.Joins Go.Proofs.Ytkocigldchiifaa.QA
set_option linter.unusedVariables false
set_option linter.unusedSimpArgs false

theorem rowsOf {α : Type} {d : Kd α} {W : World} {a : Addr} {len cap : Nat} (hl : len ≤ cap) (hm : cap ≤ maxLen) (z : α) (P : α → Prop)
  (hq : ∀ i, i < len → ∃ (x : α) (c : List Value), P x ∧ d.K W x c ∧ ∀ j u, c[j]? = some u → W.cell? (a.add (i * d.sz + j)) = some u) :
  ∃ l : List α, len = l.length ∧ Kd.C d W (some a) l.length l ∧ ∀ x ∈ l, P x := by
 have hM : maxLen = 9223372036854775807 := rfl
 obtain ⟨F, hF⟩ : ∃ F : Nat → α, ∀ i, i < len → P (F i) ∧ ∃ c, d.K W (F i) c ∧ ∀ j u, c[j]? = some u → W.cell? (a.add (i * d.sz + j)) = some u :=
  ⟨fun i => if h : i < len then (hq i h).choose else z, fun i h => by
   dsimp only
   rw [dif_pos h]
   obtain ⟨c, h1, h2, h3⟩ := (hq i h).choose_spec
   exact ⟨h1, c, h2, h3⟩⟩
 refine ⟨(List.range len).map F, by simp, ⟨rfl, by simp; omega, fun _ => ⟨a, rfl, fun j p hj => ?_⟩⟩, fun x hx => ?_⟩
 · have hjl : j < len := by have := (List.getElem?_eq_some_iff.1 hj).1; simpa using this
   rw [List.getElem?_map, List.getElem?_range hjl] at hj
   obtain rfl := Option.some.inj hj
   obtain ⟨_, c, h1, h2⟩ := hF j hjl
   exact ⟨c, d.K_len h1, h1, h2⟩
 · obtain ⟨j, hj, rfl⟩ := List.mem_map.1 hx
   exact (hF j (by have := List.mem_range.1 hj; omega)).1
theorem trod_ev {H : Type} {enc : TypeId × Value → H} {w : World} {base : Nat} {spare : Nat → Bool} {held : Bool} {fuel : Nat} {c0 c1 c2 : Value} {x : DataW H × List MemPlace}
  (h : DataW.trod enc Try.prog w base spare held fuel 59 [c0, c1, c2] = some x) : ∃ y : S59, [c0, c1, c2] = [.int .i64 y.f0, .int .i64 y.f1, .int .i64 y.f2] := by
 have e3 : Try.prog.cellsOf 3 = 1 := by kernel_rfl
 obtain ⟨xs, m, _, _, _, hl, hi⟩ := DataW.trod_struct Try.underlying59 h
 match xs, hl with
 | [y0, y1, y2], _ =>
  have t0 := hi 0 _ rfl
  have t1 := hi 1 _ rfl
  have t2 := hi 2 _ rfl
  replace t0 : DataW.trod enc Try.prog w base spare held m 3 [c0] = some y0 := by simpa [e3] using t0
  replace t1 : DataW.trod enc Try.prog w base spare held m 3 [c1] = some y1 := by simpa [e3] using t1
  replace t2 : DataW.trod enc Try.prog w base spare held m 3 [c2] = some y2 := by simpa [e3] using t2
  obtain ⟨b0, r0, _, v0⟩ := DataW.trod_int Try.underlying3 t0
  obtain ⟨b1, r1, _, v1⟩ := DataW.trod_int Try.underlying3 t1
  obtain ⟨b2, r2, _, v2⟩ := DataW.trod_int Try.underlying3 t2
  simp only [List.cons.injEq, and_true] at r0 r1 r2
  subst r0 r1 r2
  exact ⟨⟨b0, b1, b2⟩, rfl⟩
set_option maxRecDepth 100000 in
theorem open_roll {H : Type} {enc : TypeId × Value → H} {W : World} {r : Reach} {b0 : Nat} {v : Value} {d : DataW H} {p : List MemPlace}
  (hv : Value.okWide Try.prog W r b0 23 v) (h : DataW.Trod enc Try.prog W 0 (fun _ => true) true 23 v d p) :
  ∃ A c l, v = .slice A l.length c ∧ l.length ≤ c ∧ Kd.C k59 W A l.length l ∧ ∀ x ∈ l, True := by
 obtain ⟨A, n, c, rfl⟩ := okWide_slice Try.underlying23 hv
 have e59 : Try.prog.cellsOf 59 = 3 := by kernel_rfl
 have u23 : Try.prog.underlying 23 = some (.slice 59) := by kernel_rfl
 obtain ⟨fuel, hf⟩ := h
 rcases Go.Deep.open_slice u23 hf with ⟨hcs, _⟩ | ⟨a, len, cap, m, n3, D, Pl, hcs, _, hl, hm, hmm, _, hel⟩
 · simp [Value.cells] at hcs
   obtain ⟨rfl, rfl, rfl⟩ := hcs
   exact ⟨none, 0, [], rfl, Nat.le_refl _, Kd.C_nil _ _, fun x hx => by simp at hx⟩
 · simp [Value.cells] at hcs
   obtain ⟨rfl, rfl, rfl⟩ := hcs
   obtain ⟨l, rfl, hC, hw⟩ := rowsOf (d := k59) (W := W) (a := a) hl hm z59 (fun _ => True) (fun i hi => by
    obtain ⟨cs', k1, k2⟩ := hel i (by rw [hmm]; simp; omega)
    rw [e59] at k1
    obtain ⟨_, kl, kc⟩ := World.cells?_some k1
    match cs', kl with
    | [x0, x1, x2], _ =>
     obtain ⟨y, hy⟩ := trod_ev k2
     refine ⟨y, [x0, x1, x2], trivial, by rw [hy]; exact k59_mk _ _, fun j u hu => ?_⟩
     have hj : j < 3 := (List.getElem?_eq_some_iff.1 hu).1
     have := kc j hj
     rw [Addr.add_add] at this
     rw [← hu]
     exact this)
   exact ⟨some a, _, l, rfl, hl, hC, hw⟩
set_option maxRecDepth 100000 in
theorem open_pair {H : Type} {enc : TypeId × Value → H} {W : World} {r : Reach} {b0 : Nat} {v : Value} {d : DataW H} {p : List MemPlace}
  (hv : Value.okWide Try.prog W r b0 25 v) (h : DataW.Trod enc Try.prog W 0 (fun _ => true) true 25 v d p) : ∃ x y : Int, v = .agg #[.int .i64 x, .int .i64 y] ∧ (Lit.int .i64 x).wf = true ∧ (Lit.int .i64 y).wf = true := by
 obtain ⟨c0, c1, y0, y1, n, rfl, rfl, rfl, h0, h1⟩ := open_agg2 Try.underlying25 (by kernel_rfl) (by kernel_rfl) hv h
 obtain ⟨x, hc0, hy0, wx⟩ := DataW.trod_int Try.underlying3 h0
 obtain ⟨y, hc1, hy1, wy⟩ := DataW.trod_int Try.underlying3 h1
 simp only [List.cons.injEq, and_true] at hc0 hc1
 subst hc0
 subst hc1
 exact ⟨x, y, rfl, wx, wy⟩

end Go.Proofs.Ytkocigldchiifaa.H
