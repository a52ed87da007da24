/- Barriers: pairs above a height, one behind the other; a search in breadth. -/
import Derived.Test.YtkocigldchiifaaHC
import Derived.Test.YtkocigldchiifaaHF
namespace Go.Proofs.Ytkocigldchiifaa.H
open Go.RowKit Go.Proofs.YtkocigldchiifaaW.PrintWords Go.Proofs.YtkocigldchiifaaW.PrintLast Go.Proofs.YtkocigldchiifaaW.PrintMore
open Go.Shelf Go.Proofs.Ytkocigldchiifaa.QA
set_option linter.unusedVariables false
set_option linter.unusedSimpArgs false

/-- A pair that a list can end with, which begins and of which each one comes behind the one before it. -/
inductive Chn (a b : List S59) (h : Int) : S25 → Prop
 | beg (p : S25) : p ∈ aboveOf a b h → begB a b p.f0 p.f1 = true → Chn a b h p
 | step (q p : S25) : Chn a b h q → p ∈ aboveOf a b h → preB q p = true → Chn a b h p
/-- A barrier. -/
structure BarOK (a b : List S59) (h : Int) (l : List S25) : Prop where
 ne : l ≠ []
 mem : ∀ q ∈ l, q ∈ aboveOf a b h
 nxt : ∀ (i : Nat) (p q : S25), l[i]? = some p → l[i + 1]? = some q → preB p q = true
 beg : ∀ p, l[0]? = some p → begB a b p.f0 p.f1 = true
 fin : ∀ p, l.getLast? = some p → endB a b p.f0 p.f1 = true
theorem BarOK.chn {a b : List S59} {h : Int} {l : List S25} (hb : BarOK a b h l) : ∃ p, Chn a b h p ∧ endB a b p.f0 p.f1 = true := by
 have h1 : ∀ (i : Nat) (p : S25), l[i]? = some p → Chn a b h p := by
  intro i
  induction i with
  | zero => exact fun p hp => .beg p (hb.mem p (List.mem_of_getElem? hp)) (hb.beg p hp)
  | succ i ih =>
   intro p hp
   have hlt := (List.getElem?_eq_some_iff.1 hp).1
   have hq : l[i]? = some (l[i]'(by omega)) := List.getElem?_eq_getElem (by omega)
   exact .step _ p (ih _ hq) (hb.mem p (List.mem_of_getElem? hp)) (hb.nxt i _ p hq hp)
 have hne := hb.ne
 refine ⟨l.getLast hne, ?_, hb.fin _ (List.getLast?_eq_some_getLast hne)⟩
 refine h1 (l.length - 1) _ ?_
 rw [← List.getLast?_eq_getElem?]
 exact List.getLast?_eq_some_getLast hne
/-- The way back from a pair to one that begins. -/
inductive Bk (a b : List S59) (f : Int → Int → Option S25) : S25 → List S25 → Prop
 | beg (p : S25) : f p.f0 p.f1 = some p → begB a b p.f0 p.f1 = true → Bk a b f p [p]
 | step (p q : S25) (l : List S25) : f p.f0 p.f1 = some q → q ≠ p → preB q p = true → Bk a b f q l → Bk a b f p (p :: l)
theorem Bk.mono {a b : List S59} {f f' : Int → Int → Option S25} {p : S25} {l : List S25} (h : Bk a b f p l) (hf : ∀ x y e, f x y = some e → f' x y = some e) : Bk a b f' p l := by
 induction h with
 | beg p h1 h2 => exact .beg p (hf _ _ _ h1) h2
 | step p q l h1 h2 h3 _ ih => exact .step p q l (hf _ _ _ h1) h2 h3 ih
theorem Bk.spec {a b : List S59} {f : Int → Int → Option S25} {p : S25} {l : List S25} (h : Bk a b f p l) : l[0]? = some p ∧ (∀ q, l.getLast? = some q → begB a b q.f0 q.f1 = true) ∧ ∀ (i : Nat) (q r : S25), l[i]? = some q → l[i + 1]? = some r → preB r q = true := by
 induction h with
 | beg p h1 h2 => exact ⟨rfl, fun q hq => by cases hq; exact h2, fun i q r _ hr => by simp at hr⟩
 | step p q l h1 h2 h3 _ ih =>
  obtain ⟨i1, i2, i3⟩ := ih
  refine ⟨rfl, fun r hr => ?_, fun i x y hx hy => ?_⟩
  · cases l with
    | nil => simp at i1
    | cons z zs => exact i2 r (by simpa using hr)
  · cases i with
    | zero =>
     simp only [List.getElem?_cons_zero, List.getElem?_cons_succ, Option.some.injEq, Nat.zero_add] at hx hy
     subst hx
     rw [i1] at hy
     cases hy
     exact h3
    | succ i => exact i3 i x y (by simpa using hx) (by simpa using hy)
theorem Bk.bar {a b : List S59} {f : Int → Int → Option S25} {p : S25} {l : List S25} {h : Int} (hk : Bk a b f p l) (hm : ∀ q ∈ l, q ∈ aboveOf a b h) (he : endB a b p.f0 p.f1 = true) : BarOK a b h l.reverse := by
 obtain ⟨h1, h2, h3⟩ := hk.spec
 have hne : l ≠ [] := fun e => by rw [e] at h1; cases h1
 refine ⟨by simpa using hne, fun q hq => hm q (by simpa using hq), fun i x y hx hy => ?_, fun x hx => ?_, fun x hx => ?_⟩
 · have hlt := (List.getElem?_eq_some_iff.1 hy).1
   rw [List.length_reverse] at hlt
   rw [List.getElem?_reverse (by omega)] at hx hy
   exact h3 _ y x hy (by rw [← hx]; congr 1; omega)
 · refine h2 x ?_
   rw [← List.head?_reverse, List.head?_eq_getElem?]
   exact hx
 · rw [List.getLast?_reverse, List.head?_eq_getElem?, h1] at hx
   cases hx
   exact he
theorem nodup_le (n : Nat) : ∀ (l : List Nat), l.Nodup → (∀ x ∈ l, x < n) → l.length ≤ n := by
 induction n with
 | zero =>
  intro l _ h
  cases l with
  | nil => simp
  | cons x l => exact absurd (h x List.mem_cons_self) (by omega)
 | succ n ih =>
  intro l hn h
  by_cases hm : n ∈ l
  · have h1 := ih (l.erase n) (hn.erase n) (fun x hx => by
     have h2 := h x (List.mem_of_mem_erase hx)
     have h3 : x ≠ n := fun e => by subst e; exact (List.Nodup.mem_erase_iff hn).1 hx |>.1 rfl
     omega)
    have h4 := List.length_erase_of_mem hm
    omega
  · have h1 := ih l hn (fun x hx => by
     have h2 := h x hx
     have h3 : x ≠ n := fun e => hm (e ▸ hx)
     omega)
    omega
theorem nodup_map_on {α β : Type} (g : α → β) : ∀ (l : List α), l.Nodup → (∀ x ∈ l, ∀ y ∈ l, g x = g y → x = y) → (l.map g).Nodup
 | [], _, _ => List.nodup_nil
 | x :: l, h, hg => by
  rw [List.nodup_cons] at h
  rw [List.map_cons, List.nodup_cons]
  refine ⟨fun hm => ?_, nodup_map_on g l h.2 (fun x hx y hy => hg x (List.mem_cons_of_mem _ hx) y (List.mem_cons_of_mem _ hy))⟩
  obtain ⟨y, hy, e⟩ := List.mem_map.1 hm
  exact h.1 (hg y (List.mem_cons_of_mem _ hy) x List.mem_cons_self e ▸ hy)
theorem above_few {a b : List S59} {h : Int} (hR : Rolls a b) (l : List S25) (hn : l.Nodup) (hm : ∀ q ∈ l, q ∈ aboveOf a b h) : l.length ≤ 900 := by
 have hin : ∀ q ∈ l, (0 ≤ q.f0 ∧ q.f0 < 30) ∧ (0 ≤ q.f1 ∧ q.f1 < 30) := fun q hq => by
  have h1 := (hasP_iff a b _ _).1 ((mem_above a b h q).1 (hm q hq)).1
  have := hR.ha
  have := hR.hb
  omega
 have h1 := nodup_le 900 (l.map fun q => q.f0.toNat * 30 + q.f1.toNat) (nodup_map_on _ l hn (fun x hx y hy e => by
  have := hin x hx
  have := hin y hy
  obtain ⟨x0, x1⟩ := x
  obtain ⟨y0, y1⟩ := y
  simp only at *
  have e1 : x0 = y0 := by omega
  have e2 : x1 = y1 := by omega
  rw [e1, e2])) (fun n hn => by
  obtain ⟨q, hq, rfl⟩ := List.mem_map.1 hn
  have := hin q hq
  omega)
 simpa using h1
/-- The search's state: the pairs ps have been met, one behind the other; f says from which each was met. -/
structure Bf (a b : List S59) (h : Int) (k : Nat) (ps : List S25) (f : Int → Int → Option S25) : Prop where
 mem : ∀ q ∈ ps, q ∈ aboveOf a b h
 dom : ∀ x y, (f x y).isSome = true ↔ (⟨x, y⟩ : S25) ∈ ps
 path : ∀ q ∈ ps, ∃ l, Bk a b f q l ∧ l.length ≤ ps.length ∧ ∀ r ∈ l, r ∈ aboveOf a b h
 few : k ≤ 900 ∧ k ≤ ps.length ∧ (ps.drop k).Nodup
 val : ∀ x y e, f x y = some e → e ∈ ps
theorem Bf.start (a b : List S59) (h : Int) : Bf a b h 0 [] (fun _ _ => none) := by
 exact ⟨fun q hq => (by cases hq), fun x y => (by simp), fun q hq => (by cases hq), ⟨by omega, by simp, by simp⟩, fun x y e he => (by cases he)⟩
theorem Bf.len {a b : List S59} {h : Int} {k : Nat} {ps : List S25} {f : Int → Int → Option S25} (hb : Bf a b h k ps f) (hR : Rolls a b) : ps.length ≤ 1800 := by
 have h1 := above_few hR (ps.drop k) hb.few.2.2 (fun q hq => hb.mem q (List.mem_of_mem_drop hq))
 have := hb.few
 rw [List.length_drop] at h1
 omega
theorem Bf.all {a b : List S59} {h : Int} {k : Nat} {ps : List S25} {f : Int → Int → Option S25} (hb : Bf a b h k ps f) (hl : ps.length ≤ 900) : Bf a b h ps.length ps f := ⟨hb.mem, hb.dom, hb.path, ⟨hl, Nat.le_refl _, by simp⟩, hb.val⟩
/-- One that begins. -/
theorem Bf.push0 {a b : List S59} {h : Int} {ps : List S25} {f : Int → Int → Option S25} {x : S25} (hb : Bf a b h ps.length ps f) (hid : ∀ y z e, f y z = some e → e = ⟨y, z⟩) (hl : ps.length < 900) (hx : x ∈ aboveOf a b h) (hg : begB a b x.f0 x.f1 = true) :
  Bf a b h (ps ++ [x]).length (ps ++ [x]) (upd f x.f0 x.f1 x) ∧ ∀ y z e, upd f x.f0 x.f1 x y z = some e → e = ⟨y, z⟩ := by
 have hup : ∀ y z e, f y z = some e → upd f x.f0 x.f1 x y z = some e := fun y z e he => by
  unfold upd
  split
  · rename_i hc
    rw [hid y z e he, hc.1, hc.2]
  · exact he
 have hxx : upd f x.f0 x.f1 x x.f0 x.f1 = some x := by unfold upd; rw [if_pos ⟨rfl, rfl⟩]
 have hid' : ∀ y z e, upd f x.f0 x.f1 x y z = some e → e = ⟨y, z⟩ := fun y z e he => by
  unfold upd at he
  split at he
  · rename_i hc
    cases he
    rw [hc.1, hc.2]
  · exact hid y z e he
 refine ⟨⟨fun q hq => ?_, fun y z => ?_, fun q hq => ?_, by simp; omega, fun y z e he => ?_⟩, hid'⟩
 · rcases List.mem_append.1 hq with hq | hq
   · exact hb.mem q hq
   · rw [List.mem_singleton.1 hq]; exact hx
 · rw [List.mem_append, ← hb.dom y z, List.mem_singleton]
   unfold upd
   constructor
   · intro he
     split at he
     · rename_i hc
       right
       rw [hc.1, hc.2]
     · exact .inl he
   · rintro (he | he)
     · split
       · rfl
       · exact he
     · have e0 := congrArg S25.f0 he
       have e1 := congrArg S25.f1 he
       simp only at e0 e1
       rw [if_pos ⟨e0, e1⟩]
       rfl
 · rcases List.mem_append.1 hq with hq | hq
   · obtain ⟨l, h1, h2, h3⟩ := hb.path q hq
     exact ⟨l, h1.mono hup, by simp; omega, h3⟩
   · rw [List.mem_singleton.1 hq]
     exact ⟨[x], .beg x hxx hg, by simp, fun r hr => by rw [List.mem_singleton.1 hr]; exact hx⟩
 · rw [hid' y z e he, List.mem_append]
   unfold upd at he
   split at he
   · rename_i hc
     right
     rw [hc.1, hc.2]
     simp
   · exact .inl ((hb.dom y z).1 (by rw [he]; rfl))
/-- One behind another. -/
theorem Bf.push {a b : List S59} {h : Int} {k : Nat} {ps : List S25} {f : Int → Int → Option S25} {p x : S25} (hb : Bf a b h k ps f) (hx : x ∈ aboveOf a b h) (hn : x ∉ ps) (hp : p ∈ ps) (hg : preB p x = true) :
  Bf a b h k (ps ++ [x]) (upd f x.f0 x.f1 p) := by
 have hnone : f x.f0 x.f1 = none := by
  cases he : f x.f0 x.f1 with
  | none => rfl
  | some e => exact absurd ((hb.dom x.f0 x.f1).1 (by rw [he]; rfl)) hn
 have hup : ∀ y z e, f y z = some e → upd f x.f0 x.f1 p y z = some e := fun y z e he => by
  unfold upd
  split
  · rename_i hc
    rw [hc.1, hc.2, hnone] at he
    cases he
  · exact he
 have hxx : upd f x.f0 x.f1 p x.f0 x.f1 = some p := by unfold upd; rw [if_pos ⟨rfl, rfl⟩]
 refine ⟨fun q hq => ?_, fun y z => ?_, fun q hq => ?_, ⟨hb.few.1, by have := hb.few; simp; omega, ?_⟩, fun y z e he => ?_⟩
 · rcases List.mem_append.1 hq with hq | hq
   · exact hb.mem q hq
   · rw [List.mem_singleton.1 hq]; exact hx
 · rw [List.mem_append, ← hb.dom y z, List.mem_singleton]
   unfold upd
   constructor
   · intro he
     split at he
     · rename_i hc
       right
       rw [hc.1, hc.2]
     · exact .inl he
   · rintro (he | he)
     · split
       · rfl
       · exact he
     · have e0 := congrArg S25.f0 he
       have e1 := congrArg S25.f1 he
       simp only at e0 e1
       rw [if_pos ⟨e0, e1⟩]
       rfl
 · rcases List.mem_append.1 hq with hq | hq
   · obtain ⟨l, h1, h2, h3⟩ := hb.path q hq
     exact ⟨l, h1.mono hup, by simp; omega, h3⟩
   · rw [List.mem_singleton.1 hq]
     obtain ⟨l, h1, h2, h3⟩ := hb.path p hp
     refine ⟨x :: l, .step x p l hxx (fun e => hn (e ▸ hp)) hg (h1.mono hup), by simp; omega, fun r hr => ?_⟩
     rcases List.mem_cons.1 hr with rfl | hr
     · exact hx
     · exact h3 r hr
 · rw [List.drop_append_of_le_length hb.few.2.1, List.nodup_append]
   refine ⟨hb.few.2.2, by simp, fun q hq y hy => ?_⟩
   rw [List.mem_singleton.1 hy]
   exact fun e => hn (e ▸ List.mem_of_mem_drop hq)
 · rw [List.mem_append]
   unfold upd at he
   split at he
   · cases he
     exact .inl hp
   · exact .inl (hb.val y z e he)
/-- The search has come to its end: no list of this kind ends. -/
theorem closed_none {a b : List S59} {h : Int} (ps : List S25) (hbeg : ∀ q ∈ aboveOf a b h, begB a b q.f0 q.f1 = true → q ∈ ps) (hcl : ∀ p ∈ ps, endB a b p.f0 p.f1 = false ∧ ∀ q ∈ aboveOf a b h, preB p q = true → q ∈ ps) (p : S25) (hc : Chn a b h p) : endB a b p.f0 p.f1 = false := by
 have h1 : p ∈ ps := by
  induction hc with
  | beg p h1 h2 => exact hbeg p h1 h2
  | step q p _ h1 h2 ih => exact (hcl q ih).2 p h1 h2
 exact (hcl p h1).1

end Go.Proofs.Ytkocigldchiifaa.H
