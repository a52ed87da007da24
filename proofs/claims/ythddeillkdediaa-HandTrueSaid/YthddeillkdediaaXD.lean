/- Texts M0, H8, ME, P1, P2, H9 of this chapter, one behind the other. -/
import Derived.Carry
import Derived.DeepKeys4
import Derived.Maps.OwnIn
import Derived.Maps.RangeWalk
import Derived.Maps.Views
import Derived.ProofKit
import Derived.WideKeyEntry
import Derived.Test.YthddeillkdediaaXB
import Derived.Test.YthddeillkdediaaXC

/- Maps of numbers, keyed by numbers or by what was taken, read as functions, and ranged over. -/
namespace Go.Proofs.Ythddeillkdediaa.H
open Go.RowKit Go.Proofs.YthddeillkdediaaW.PrintWords Go.Proofs.YthddeillkdediaaW.PrintLast Go.Proofs.YthddeillkdediaaW.PrintMore
open Go.Shelf Go.Proofs.Ythddeillkdediaa.QA
set_option linter.unusedVariables false
set_option linter.unusedSimpArgs false

set_option maxRecDepth 100000
theorem laid10 : laidOutB Try.prog = true := by kernel_rfl
/-- What a key of a map is. -/
structure KeyX (K : Type) where
 t : TypeId
 enc : K → Value
 ok : K → Prop
 keyed : Maps.Keyed Try.prog t
 some : ∀ k, ok k → ∃ l, keyOf Try.prog t (enc k) = some l
 inj : ∀ a b, enc a = enc b → a = b
/-- Numbers as keys. -/
def kInt : KeyX Int where
 t := 3
 enc := .int .i64
 ok := fun x => -1000000 ≤ x ∧ x ≤ 1000000
 keyed := Maps.int_keyed (q := .i64) Try.underlying3
 some := fun x h => by
  have e1 : IntKind.i64.min = -9223372036854775808 := by decide
  have e2 : IntKind.i64.max = 9223372036854775807 := by decide
  have hw : (Lit.int .i64 x).wf = true := by
   simp [Lit.wf, e1, e2]
   omega
  refine ⟨.int .i64 x, ?_⟩
  simp [keyOf, mapKey, Try.underlying3, hw]
 inj := fun a b h => by
  injection h
theorem wide107 : (match Try.prog.underlying 107 with | some (.array _ _) | some (.struct _) => true | _ => false) = true := by rw [Try.underlying107]
theorem row107 : (107 : TypeId) < Try.prog.types.size := of_decide_eq_true (by kernel_rfl)
theorem law107 : WideMaps.KeyLaw Try.prog 107 := deep_law_laid laid10 (m := 2) (by omega) row107 (by kernel_rfl) wide107
theorem keyT107 : Try.prog.keyType 107 = true := by kernel_rfl
theorem cells107 : Try.prog.cellsOf 107 = 2 := by kernel_rfl
/-- What was taken: how many, and the sum. -/
def kT (i : Nat) : KeyX (Int × Int) where
 t := 107
 enc := fun p => .agg #[.int .i64 p.1, .int .i64 p.2]
 ok := fun p => (0 ≤ p.1 ∧ p.1 ≤ (i : Int)) ∧ (0 ≤ p.2 ∧ p.2 ≤ 1000 * (i : Int)) ∧ i ≤ 40
 keyed := Maps.Keyed.of_law law107
 some := fun p h => by
  have h3 : Try.prog.underlying 3 = some (.int .i64) := Try.underlying3
  have e1 : IntKind.i64.min = -9223372036854775808 := by decide
  have e2 : IntKind.i64.max = 9223372036854775807 := by decide
  have w1 : (Lit.int .i64 p.1).wf = true := by
   simp [Lit.wf, e1, e2]
   omega
  have w2 : (Lit.int .i64 p.2).wf = true := by
   simp [Lit.wf, e1, e2]
   omega
  obtain ⟨m, hm⟩ : ∃ m, Try.prog.types.size = m + 1 := ⟨_, (by kernel_rfl : Try.prog.types.size = (Try.prog.types.size - 1) + 1)⟩
  have c3 : Try.prog.cellsOf 3 = 1 := by kernel_rfl
  unfold keyOf
  rw [Try.underlying107, hm]
  simp [keyT107, Value.formed, Try.underlying107, cells107, Program.keyLits, h3, w1, w2, c3, Value.cells]
 inj := fun a b h => by
  injection h with h
  simp at h
  exact Prod.ext h.1 h.2
/-- How numbers are read. -/
def RI : Value → Option (DataW Unit × List MemPlace)
 | .int .i64 a => some (.lit (.int .i64 a), [])
 | _ => none
theorem RI_back {v : Value} {y : DataW Unit × List MemPlace} (h : RI v = some y) : ∃ c, v = .int .i64 c ∧ y = (.lit (.int .i64 c), []) := by
 unfold RI at h
 split at h
 · exact ⟨_, rfl, (Option.some.inj h).symm⟩
 · cases h
section
variable {K : Type} {X : KeyX K}
/-- D reads as f; where there is no entry f is 0. -/
structure Reads (X : KeyX K) (D : DataW Unit) (f : K → Int) : Prop where
 map : Maps.IsMap D
 at_ : ∀ k, X.ok k → ∀ l, keyOf Try.prog X.t (X.enc k) = some l → (Maps.has D l = true → ∀ z, D.atKey l z = .lit (.int .i64 (f k))) ∧ (Maps.has D l = false → f k = 0)
 all : ∀ l, Maps.has D l = true → ∃ k, X.ok k ∧ keyOf Try.prog X.t (X.enc k) = some l
/-- Block b is a map of at most n entries that reads as f. -/
def MapF (X : KeyX K) (w : World) (b n : Nat) (f : K → Int) : Prop := ∃ D : DataW Unit, Reads X D f ∧ w.ownsMap Try.prog X.t RI b n D
def upd [DecidableEq K] (f : K → Int) (k : K) (v : Int) : K → Int := fun a => if a = k then v else f a
theorem MapF.made (w : World) : MapF X (w.alloc (.map #[] 0)) w.heap.size 0 (fun _ => 0) :=
 ⟨.map [], ⟨⟨[], rfl⟩, fun k _ l _ => ⟨fun h => (by cases h), fun _ => rfl⟩, fun l h => (by cases h)⟩, World.ownsMap_made w Try.prog X.t RI⟩
theorem MapF.kept {w w' : World} {b n : Nat} {f : K → Int} {row : Option Nat} (h : MapF X w b n f) (hg : w.grownBy w' row) (hne : some b ≠ row) : MapF X w' b n f := by
 obtain ⟨D, h1, h2⟩ := h
 exact ⟨D, h1, h2.kept hg hne⟩
theorem MapF.lt {w : World} {b n : Nat} {f : K → Int} (h : MapF X w b n f) : b < w.heap.size := by
 obtain ⟨D, h1, h2⟩ := h
 exact h2.lt
theorem MapF.same {w w' : World} {b n : Nat} {f : K → Int} (h : MapF X w b n f) (he : w'.heap[b]? = w.heap[b]?) : MapF X w' b n f := by
 obtain ⟨D, h1, ⟨es, clock, hb, h2⟩⟩ := h
 exact ⟨D, h1, ⟨es, clock, he.trans hb, h2⟩⟩
theorem MapF.below {w w' : World} {b n : Nat} {f : K → Int} (h : MapF X w b n f) (hb : Below w.heap.size w w') : MapF X w' b n f := h.same (hb.block _ h.lt)
theorem MapF.mono {w : World} {b n n' : Nat} {f : K → Int} (h : MapF X w b n f) (hn : n ≤ n') : MapF X w b n' f := by
 obtain ⟨D, h1, h2⟩ := h
 exact ⟨D, h1, h2.mono hn⟩
theorem MapF.look {w : World} {b n : Nat} {f : K → Int} {t : TypeId} (h : MapF X w b n f) (ht : Try.prog.underlying t = some (.map X.t 3)) {k : K} (hk : X.ok k) :
  (Instr.lookup t (.map (some b)) (X.enc k) false).run Try.prog w = .ok (.int .i64 (f k)) w := by
 obtain ⟨D, h1, h2⟩ := h
 obtain ⟨l, hl⟩ := X.some k hk
 have hz : (zeroValue 3).run Try.prog w = .ok (.int .i64 0) w := by kernel_rfl
 obtain ⟨v, ps, hrun, hv⟩ := h2.lookup X.keyed ht hz (zd := .lit (.int .i64 0)) (zp := []) rfl hl
 obtain ⟨h4, h5⟩ := h1.at_ k hk l hl
 obtain ⟨c, rfl, hc⟩ := RI_back hv
 have hc1 := congrArg Prod.fst hc
 rw [hrun]
 cases hh : Maps.has D l with
 | true =>
  rw [h4 hh] at hc1
  injection hc1 with hc1
  injection hc1 with _ hc1
  rw [hc1]
 | false =>
  rw [Maps.atKey_of_not_has hh] at hc1
  injection hc1 with hc1
  injection hc1 with _ hc1
  rw [h5 hh, hc1]
theorem MapF.put [DecidableEq K] {w : World} {b n : Nat} {f : K → Int} {t : TypeId} (h : MapF X w b n f) (ht : Try.prog.underlying t = some (.map X.t 3)) (hn : n < maxLen) {k : K} (hk : X.ok k) (v : Int) :
  ∃ w', (Instr.mapUpdate t (.map (some b)) (X.enc k) (.int .i64 v)).run Try.prog w = .ok () w' ∧ MapF X w' b (n + 1) (upd f k v) ∧ w.grownBy w' (some b) := by
 obtain ⟨D, h1, h2⟩ := h
 obtain ⟨l, hl⟩ := X.some k hk
 obtain ⟨w', hrun, h4, h5⟩ := h2.update X.keyed ht hn hl (val := .int .i64 v) (d := .lit (.int .i64 v)) (ps := []) rfl
 refine ⟨w', hrun, ⟨_, ⟨h1.map.put _ _, fun a ha l' hl' => ?_, fun l' hl' => ?_⟩, h4⟩, h5⟩
 · by_cases he : a = k
   · subst he
     obtain rfl : l' = l := Option.some.inj (hl'.symm.trans hl)
     refine ⟨fun _ z => ?_, fun hh => ?_⟩
     · rw [Maps.atKey_put_same h1.map (X.keyed.key hl')]
       simp [upd]
     · rw [Maps.has_put_same h1.map (X.keyed.key hl')] at hh
       cases hh
   · have hne : l' ≠ l := fun e => he (by
      subst e
      exact X.inj _ _ (X.keyed.inj hl' hl))
     obtain ⟨h6, h7⟩ := h1.at_ a ha l' hl'
     rw [Maps.has_put_other hne]
     refine ⟨fun hh z => ?_, fun hh => ?_⟩
     · rw [Maps.atKey_put_other hne]
       simp only [upd, if_neg he]
       exact h6 hh z
     · simp only [upd, if_neg he]
       exact h7 hh
 · by_cases he : l' = l
   · exact ⟨k, hk, by rw [he]; exact hl⟩
   · rw [Maps.has_put_other he] at hl'
     exact h1.all l' hl'
/-- 'for k, v := range m' under way: L says which entries are still to come; cnt: how many. -/
def RangeF (X : KeyX K) (w : World) (b r : Nat) (f : K → Int) (L : K → Bool) (cnt : Nat) : Prop :=
 ∃ (n : Nat) (D : DataW Unit) (left : Lit → Bool), Reads X D f ∧ w.ranges Try.prog X.t RI b r n D left cnt ∧ ∀ k, X.ok k → ∀ l, keyOf Try.prog X.t (X.enc k) = some l → left l = L k
theorem RangeF.left_eq {w : World} {b r cnt : Nat} {f : K → Int} {L : K → Bool} (h : RangeF X w b r f L cnt) : w.rangeLeft b r = cnt := by
 obtain ⟨n, D, left, h1, h2, h3⟩ := h
 exact h2.left_eq
theorem RangeF.kept {w w' : World} {b r cnt : Nat} {f : K → Int} {L : K → Bool} {row : Option Nat} (h : RangeF X w b r f L cnt) (hg : w.grownBy w' row) (hb : some b ≠ row) (hr : some r ≠ row) : RangeF X w' b r f L cnt := by
 obtain ⟨n, D, left, h1, h2, h3⟩ := h
 exact ⟨n, D, left, h1, h2.kept hg hb hr, h3⟩
theorem RangeF.ne {w : World} {b r cnt : Nat} {f : K → Int} {L : K → Bool} (h : RangeF X w b r f L cnt) : r ≠ b := by
 obtain ⟨n, D, left, h1, h2, h3⟩ := h
 exact h2.ne
theorem RangeF.lt {w : World} {b r cnt : Nat} {f : K → Int} {L : K → Bool} (h : RangeF X w b r f L cnt) : r < w.heap.size ∧ b < w.heap.size := by
 obtain ⟨n, D, left, h1, h2, h3⟩ := h
 exact ⟨h2.lt, h2.owns.lt⟩
/-- 'range m'. -/
theorem wpList_rangeF {ops : Array Oper} {rest : List Oper} {o : Oper} {a : Act} {Q : Exit → Act → World → Prop} {w : World} (hg : o.guard = none) (m : Operand) (t : TypeId) (hop : o.op = Op.range t m) (ht : Try.prog.underlying t = some (.map X.t 3)) (b n : Nat) (f : K → Int)
  (hm : a.eval m = .map (some b)) (hM : MapF X w b n f)
  (hK : ∀ w' L cnt, RangeF X w' b w.heap.size f L cnt → (∀ k, X.ok k → L k = false → f k = 0) → cnt ≤ n → w.grownBy w' none → w'.heap.size = w.heap.size + 1 → wpList Try.prog ops Q rest (a.put o.dst (.pointer (some ⟨w.heap.size, 0, none⟩))) w') :
  wpList Try.prog ops Q (o :: rest) a w := by
 obtain ⟨D, h1, h2⟩ := hM
 have hsz : Maps.size D ≤ n := by
  obtain ⟨es, clock, hb, F, hs, rfl⟩ := h2
  simp only [Maps.size, length_sorted]
  simpa using hs
 refine wpList_range_own w hg m t hop X.t 3 X.keyed ht RI b n D hm h2 fun w' hr hg' hs => ?_
 refine hK w' (fun k => match keyOf Try.prog X.t (X.enc k) with | some l => Maps.has D l | none => false) _ ⟨n, D, _, h1, hr, fun k _ l hl => ?_⟩ (fun k hk hL => ?_) hsz hg' hs
 · show Maps.has D l = match keyOf Try.prog X.t (X.enc k) with | some l => Maps.has D l | none => false
   rw [hl]
 · obtain ⟨l, hl⟩ := X.some k hk
   replace hL : (match keyOf Try.prog X.t (X.enc k) with | some l => Maps.has D l | none => false) = false := hL
   rw [hl] at hL
   exact (h1.at_ k hk l hl).2 hL
/-- The step. -/
theorem wpList_nextF [DecidableEq K] {ops : Array Oper} {rest : List Oper} {o : Oper} {a : Act} {Q : Exit → Act → World → Prop} {w : World} (hg : o.guard = none) (it : Operand) (hop : o.op = Op.next it false) (b r cnt : Nat) (f : K → Int) (L : K → Bool)
  (hit : a.eval it = .pointer (some ⟨r, 0, none⟩)) (h : RangeF X w b r f L cnt)
  (hDone : (∀ k, X.ok k → L k = false) → wpList Try.prog ops Q rest (a.put o.dst (.tuple #[.bool false])) w)
  (hMore : ∀ (x : K) (w' : World) (cnt' : Nat), X.ok x → L x = true → RangeF X w' b r f (fun k => L k && !decide (k = x)) cnt' → cnt' < cnt → w.grownBy w' (some r) → w'.heap.size = w.heap.size →
   (Instr.entry (.pointer (some ⟨r, 0, none⟩))).run Try.prog w' = .ok (.tuple #[X.enc x, .int .i64 (f x)]) w' → wpList Try.prog ops Q rest (a.put o.dst (.tuple #[.bool true, X.enc x, .int .i64 (f x)])) w') :
  wpList Try.prog ops Q (o :: rest) a w := by
 obtain ⟨n, D, left, h1, h2, h3⟩ := h
 refine wpList_plain hg fun K' hK' => ?_
 unfold Oper.wp
 rcases h2.next X.keyed o.type with ⟨h0, hl, hrun⟩ | ⟨key, v, kl, y, w', cnt', hkey, hlk, hv, hat, hrun, hrg, hlt, hgr, hsz, hen⟩
 · simp [execOp, hop, hit, hrun, Result.andThen]
   exact hK' _ _ (hDone fun k hk => by
    obtain ⟨l, hl'⟩ := X.some k hk
    rw [← h3 k hk l hl', hl l])
 · obtain ⟨c, rfl, rfl⟩ := RI_back hv
   have hh := Maps.has_true_of_atKey hat
   obtain ⟨x, hx, hxl⟩ := h1.all kl hh
   obtain rfl : key = X.enc x := X.keyed.inj hkey hxl
   have hc : c = f x := by
    have e1 := (h1.at_ x hx kl hxl).1 hh .nil
    rw [hat] at e1
    injection e1 with e1
    injection e1
   subst hc
   simp [execOp, hop, hit, hrun, Result.andThen]
   refine hK' _ _ (hMore x w' cnt' hx (by rw [← h3 x hx kl hxl]; exact hlk) ⟨n, D, _, h1, hrg, fun k hk l hl => ?_⟩ hlt hgr hsz hen)
   rw [h3 k hk l hl]
   by_cases he : k = x
   · subst he
     obtain rfl : l = kl := Option.some.inj (hl.symm.trans hxl)
     rw [WideAt.sameKey_self (X.keyed.key hl)]
     simp
   · have hne : l ≠ kl := fun e => he (by subst e; exact X.inj _ _ (X.keyed.inj hl hxl))
     rw [Maps.sameKey_ne hne]
     simp [he]
end
theorem und80 : Try.prog.underlying 80 = some (.map 3 3) := by kernel_rfl
theorem und104 : Try.prog.underlying 104 = some (.map 107 3) := by kernel_rfl

end Go.Proofs.Ythddeillkdediaa.H

/- hand.choices$1. -/
namespace Go.Proofs.Ythddeillkdediaa.H
open Go.RowKit Go.Proofs.YthddeillkdediaaW.PrintWords Go.Proofs.YthddeillkdediaaW.PrintLast Go.Proofs.YthddeillkdediaaW.PrintMore
open Go.Shelf Go.Proofs.Ythddeillkdediaa.QA
set_option linter.unusedVariables false
set_option linter.unusedSimpArgs false

def cellsT (us : List (Int × Int)) : List Value := us.flatMap fun p => [.int .i64 p.1, .int .i64 p.2]
/-- What may come of taking an element of a rank, or leaving it. -/
def usesT (n : Int) (p : Int × Int) (r : Int) : List (Int × Int) := if p.1 = n then [p] else [p, (p.1 + 1, p.2 + r)]
/-- hand.choices$1 -/
theorem uses_calls (Ba : Nat) (A : Option Addr) (c : Nat) (a : List Int) (p : Int × Int) (r : Int) (w : World) (hb : w.heap[Ba]? = some (.cells #[.slice A a.length c] 71 (0, 0))) (h1 : 0 ≤ p.1 ∧ p.1 ≤ 1000) (h2 : 0 ≤ p.2 ∧ p.2 ≤ 900000) (hr : 0 ≤ r ∧ r ≤ 1000) :
  Calls Try.prog 79 #[.agg #[.int .i64 p.1, .int .i64 p.2], .int .i64 r, .pointer (some ⟨Ba, 0, none⟩)] w fun e w' => ∃ g, e = .returned (.slice (some ⟨g, 0, none⟩) (usesT a.length p r).length (usesT a.length p r).length) ∧
   w'.heap[g]? = some (.cells (cellsT (usesT a.length p r)).toArray 107 (0, 0)) ∧ w.heap.size ≤ g ∧ Below w.heap.size w w' := by
 have hu107 := Try.underlying107
 have hb2 := below_alloc (Below.refl w.heap.size w) (.cells #[.int .i64 p.1, .int .i64 p.2] 107)
 have c2 : (w.alloc (.cells #[.int .i64 p.1, .int .i64 p.2] 107)).cell? ⟨Ba, 0, none⟩ = some (.slice A a.length c) := (blk_cell (blk_below hb hb2) 0).trans rfl
 have e1 : wrap64 (p.1 + 1) = p.1 + 1 := w64' _ (by omega) (by omega)
 have e2 : wrap64 (p.2 + r) = p.2 + r := w64' _ (by omega) (by omega)
 have HB := Aside0.mk hb2
 clear hb hb2 h1 h2 hr
 by_cases h : p.1 = (a.length : Int)
 · have d1 : (p.1 == (a.length : Int)) = true := beq_iff_eq.2 h
   have d2 : decide (p.1 = (a.length : Int)) = true := decide_eq_true h
   have HU := Aside0.mk (show usesT a.length p r = [p] by unfold usesT; rw [if_pos h])
   rw [HU.out]
   clear h
   go_enter Try.func79, Try.ntmps79
   go_wp2
   go_ret
   exact ⟨_, rfl, by simpa [cellsT] using blk_new (w.alloc (.cells #[.int .i64 p.1, .int .i64 p.2] 107)) (.cells #[.int .i64 p.1, .int .i64 p.2] 107), by simp, below_alloc HB.out _⟩
 · have d1 : (p.1 == (a.length : Int)) = false := beq_false_of_ne h
   have d2 : decide (p.1 = (a.length : Int)) = false := decide_eq_false h
   have HU := Aside0.mk (show usesT a.length p r = [p, (p.1 + 1, p.2 + r)] by unfold usesT; rw [if_neg h])
   rw [HU.out]
   go_enter Try.func79, Try.ntmps79
   go_wp2
   go_ret
   exact ⟨_, rfl, by simpa [cellsT] using blk_new (w.alloc (.cells #[.int .i64 p.1, .int .i64 p.2] 107)) (.cells #[.int .i64 p.1, .int .i64 p.2, .int .i64 (p.1 + 1), .int .i64 (p.2 + r)] 107), by simp, below_alloc HB.out _⟩

end Go.Proofs.Ythddeillkdediaa.H

/- The place of an entry in a map, and a store there. -/
namespace Go.Proofs.Ythddeillkdediaa.H
open Go.RowKit Go.Proofs.YthddeillkdediaaW.PrintWords Go.Proofs.YthddeillkdediaaW.PrintLast Go.Proofs.YthddeillkdediaaW.PrintMore
open Go.Shelf Go.Proofs.Ythddeillkdediaa.QA
set_option linter.unusedVariables false
set_option linter.unusedSimpArgs false

open Go.ChangeShapes Go.WideShapes Go.MapKept Go.ChangeMaps Go.WideElems
section
variable {K : Type} {X : KeyX K}
theorem look_none {w : World} {b : Nat} {es : Array MapEntry} {clock : Nat} {t : TypeId} {key : Value} {l : Lit} (ht : Try.prog.underlying t = some (.map X.t 3)) (hb : w.heap[b]? = some (.map es clock)) (hl : keyOf Try.prog X.t key = some l) (hf : (Instr.findKey X.t key es.toList).run Try.prog w = .ok none w) :
  (Instr.lookup t (.map (some b)) key false).run Try.prog w = .ok (.int .i64 0) w := by
 have hz : (zeroValue 3).run Try.prog w = .ok (.int .i64 0) w := by kernel_rfl
 simp [Instr.lookup, run_underlying ht, MapKept.run_getObj_map hb, X.keyed.check w _ hl, hf, hz, Result.andThen]
theorem look_some {w : World} {b : Nat} {es : Array MapEntry} {clock : Nat} {t : TypeId} {key v : Value} {l : Lit} {j : Nat} (ht : Try.prog.underlying t = some (.map X.t 3)) (hb : w.heap[b]? = some (.map es clock)) (hl : keyOf Try.prog X.t key = some l) (hf : (Instr.findKey X.t key es.toList).run Try.prog w = .ok (some (j, v)) w) :
  (Instr.lookup t (.map (some b)) key false).run Try.prog w = .ok v w := by
 have hz : (zeroValue 3).run Try.prog w = .ok (.int .i64 0) w := by kernel_rfl
 simp [Instr.lookup, run_underlying ht, MapKept.run_getObj_map hb, X.keyed.check w _ hl, hf, hz, Result.andThen]
theorem upd_self [DecidableEq K] (f : K → Int) (k : K) : upd f k (f k) = f := by
 funext a
 unfold upd
 by_cases h : a = k
 · rw [if_pos h, h]
 · rw [if_neg h]
/-- The place of an entry, and a store there. -/
theorem MapF.entry [DecidableEq K] {w : World} {b n : Nat} {f : K → Int} {t : TypeId} (h : MapF X w b n f) (ht : Try.prog.underlying t = some (.map X.t 3)) (hn : n < maxLen) {k : K} (hk : X.ok k) :
  ∃ (st : Nat) (w1 : World), (Instr.mapEntry t (.map (some b)) (X.enc k)).run Try.prog w = .ok (.tuple #[.int .i64 (f k), goInt st]) w1 ∧ MapF X w1 b (n + 1) f ∧ w.grownBy w1 (some b) ∧
   ∀ (w2 : World) (v : Int), w2.heap[b]? = w1.heap[b]? → ∃ w3, (Instr.entryStore t (.map (some b)) (goInt st) (.int .i64 v)).run Try.prog w2 = .ok () w3 ∧ MapF X w3 b (n + 1) (upd f k v) ∧ w2.grownBy w3 (some b) := by
 have hlook := h.look ht hk
 have hput := fun v => h.put ht hn hk v
 have h0 := h
 obtain ⟨D, h1, ⟨es, clock, hb, F, hs, hD⟩⟩ := h
 obtain ⟨l, hl⟩ := X.some k hk
 obtain ⟨s1, s2, _⟩ := F.stamped
 have hz : (zeroValue 3).run Try.prog w = .ok (.int .i64 0) w := by kernel_rfl
 have hblt : b < w.heap.size := (Array.getElem?_eq_some_iff.1 hb).1
 have hgrow : ∀ (u : World) (o : Obj), u.grownBy (setBlock u b o) (some b) := fun u o => ⟨rfl, rfl, rfl, by simp [setBlock], fun i _ hi => by
  simp only [setBlock]
  rw [Array.getElem?_setIfInBounds_ne]
  exact fun e => hi (by rw [e])⟩
 have hat : ∀ (u : World) (o : Obj), b < u.heap.size → (setBlock u b o).heap[b]? = some o := fun u o hlt => by
  simp [setBlock, hlt]
 rcases X.keyed.find w hl es.toList F.keys with ⟨hf1, hf2⟩ | ⟨j, e0, hf1, hf2, hf3⟩
 · have hf0 : f k = 0 := by
    have := hlook.symm.trans (look_none ht hb hl hf1)
    simp at this
    exact this
   have hrunp : ∀ v, (Instr.mapUpdate t (.map (some b)) (X.enc k) (.int .i64 v)).run Try.prog w = .ok () (setBlock w b (.map (es.push ⟨X.enc k, .int .i64 v, clock⟩) (clock + 1))) := fun v => by
    simp [Instr.mapUpdate, run_underlying ht, MapKept.run_getObj_map hb, X.keyed.check w false hl, hf1, MapKept.run_setObj_map _ hb, Result.andThen, setBlock]
   have hp : ∀ v, MapF X (setBlock w b (.map (es.push ⟨X.enc k, .int .i64 v, clock⟩) (clock + 1))) b (n + 1) (upd f k v) := fun v => by
    obtain ⟨w', r1, r2, r3⟩ := hput v
    rw [hrunp v] at r1
    injection r1 with _ r1
    rw [r1]
    exact r2
   refine ⟨clock, setBlock w b (.map (es.push ⟨X.enc k, .int .i64 0, clock⟩) (clock + 1)), ?_, ?_, hgrow _ _, fun w2 v hw2 => ?_⟩
   · rw [hf0]
     simp [Instr.mapEntry, run_underlying ht, MapKept.run_getObj_map hb, X.keyed.check w false hl, hf1, hz, MapKept.run_setObj_map _ hb, Result.andThen, setBlock]
   · have := hp 0
     rw [show upd f k 0 = f by rw [← hf0]; exact upd_self f k] at this
     exact this
   · rw [hat _ _ hblt] at hw2
     have hlt2 : b < w2.heap.size := (Array.getElem?_eq_some_iff.1 hw2).1
     refine ⟨setBlock w2 b (.map (es.push ⟨X.enc k, .int .i64 v, clock⟩) (clock + 1)), ?_, (hp v).same (by rw [hat _ _ hlt2, hat _ _ hblt]), hgrow _ _⟩
     have hidx : (es.push ⟨X.enc k, .int .i64 0, clock⟩).findIdx? (fun e => ((e.born : Nat) : Int) == ((clock : Nat) : Int)) = some es.size := by
      rw [findIdx_arr]
      have := findIdx_born (l := (es.push ⟨X.enc k, .int .i64 0, clock⟩).toList) (j := es.size) (e0 := ⟨X.enc k, .int .i64 0, clock⟩) (by
       simp only [Array.toList_push, List.map_append, List.map_cons, List.map_nil]
       refine List.nodup_append.2 ⟨s2, by simp, fun a ha c hc e1 => ?_⟩
       simp only [List.mem_singleton] at hc
       obtain ⟨x, hx, rfl⟩ := List.mem_map.1 ha
       have := s1 x hx
       omega) (by simp)
      exact this
     have hmod : (es.push ⟨X.enc k, .int .i64 0, clock⟩).modify es.size (fun e => { e with val := .int .i64 v }) = es.push ⟨X.enc k, .int .i64 v, clock⟩ := by
      apply Array.ext'
      rw [Array.toList_modify, Array.toList_push, Array.toList_push, ← Array.length_toList, modify_last]
     simp [Instr.entryStore, MapKept.run_getObj_map hw2, asInt, asIntOf, goInt, hidx, hmod, MapKept.run_setObj_map _ hw2, Result.andThen, setBlock]
 · have hj : es[j]? = some e0 := by simpa using hf2
   have hf0 : e0.val = .int .i64 (f k) := by
    have := hlook.symm.trans (look_some ht hb hl hf1)
    simp at this
    exact this.symm
   have hsame : es.modify j (fun e => { e with key := X.enc k }) = es := by
    apply Array.ext'
    rw [Array.toList_modify, modify_eq_set _ _ _ _ hf2]
    have : ({ e0 with key := X.enc k } : MapEntry) = e0 := by rw [← hf3]
    rw [this]
    exact set_self _ _ _ hf2
   refine ⟨e0.born, setBlock w b (.map es clock), ?_, (h0.mono (Nat.le_succ n)).same (by rw [hat _ _ hblt, hb]), hgrow _ _, fun w2 v hw2 => ?_⟩
   · rw [← hf0]
     simp [Instr.mapEntry, run_underlying ht, MapKept.run_getObj_map hb, X.keyed.check w false hl, hf1, hj, hf3, X.keyed.stays w hl, hsame, MapKept.run_setObj_map _ hb, Result.andThen, setBlock]
   · rw [hat _ _ hblt] at hw2
     have hlt2 : b < w2.heap.size := (Array.getElem?_eq_some_iff.1 hw2).1
     have hidx : es.findIdx? (fun e => ((e.born : Nat) : Int) == ((e0.born : Nat) : Int)) = some j := by
      rw [findIdx_arr]
      exact findIdx_born s2 hf2
     have hmod : es.modify j (fun e => { e with val := .int .i64 v }) = es.modify j (fun e' => { e' with key := X.enc k, val := .int .i64 v }) := by
      apply Array.ext'
      rw [Array.toList_modify, Array.toList_modify, modify_eq_set _ _ _ _ hf2, modify_eq_set _ _ _ _ hf2, ← hf3]
     have hrunp : (Instr.mapUpdate t (.map (some b)) (X.enc k) (.int .i64 v)).run Try.prog w = .ok () (setBlock w b (.map (es.modify j (fun e' => { e' with key := X.enc k, val := .int .i64 v })) clock)) := by
      simp [Instr.mapUpdate, run_underlying ht, MapKept.run_getObj_map hb, X.keyed.check w false hl, hf1, hj, hf3, X.keyed.stays w hl, MapKept.run_setObj_map _ hb, Result.andThen, setBlock]
     obtain ⟨w', r1, r2, r3⟩ := hput v
     rw [hrunp] at r1
     injection r1 with _ r1
     refine ⟨setBlock w2 b (.map (es.modify j (fun e' => { e' with key := X.enc k, val := .int .i64 v })) clock), ?_, r2.same (by rw [hat _ _ hlt2, ← r1, hat _ _ hblt]), hgrow _ _⟩
     simp [Instr.entryStore, MapKept.run_getObj_map hw2, asInt, asIntOf, goInt, hidx, hmod, MapKept.run_setObj_map _ hw2, Result.andThen, setBlock]
end

end Go.Proofs.Ythddeillkdediaa.H

/- Ways to take elements, counted. -/
namespace Go.Proofs.Ythddeillkdediaa.H
open Go.RowKit Go.Proofs.YthddeillkdediaaW.PrintWords Go.Proofs.YthddeillkdediaaW.PrintLast Go.Proofs.YthddeillkdediaaW.PrintMore
open Go.Shelf Go.Proofs.Ythddeillkdediaa.QA
set_option linter.unusedVariables false
set_option linter.unusedSimpArgs false

/-- The ways after one more element of rank r, where n are wanted. -/
def stepT (n r : Int) (F : Int × Int → Int) : Int × Int → Int := fun e => F e + (if e.1 - 1 = n then 0 else F (e.1 - 1, e.2 - r))
def startT : Int × Int → Int := fun p => if p = (0, 0) then 1 else 0
/-- The ways to take elements of a list of ranks: how many, and the sum. -/
def wT (n : Int) (rs : List Int) : Int × Int → Int := rs.foldl (fun F r => stepT n r F) startT
theorem wT_snoc (n : Int) (rs : List Int) (r : Int) : wT n (rs ++ [r]) = stepT n r (wT n rs) := by
 unfold wT
 rw [List.foldl_append]
 rfl
/-- What is known of the ways after i elements. -/
structure Ws (f : Int × Int → Int) (i : Nat) : Prop where
 pos : ∀ p, 0 ≤ f p
 le : ∀ p, f p ≤ ((2 ^ i : Nat) : Int)
 sup : ∀ p, f p ≠ 0 → (0 ≤ p.1 ∧ p.1 ≤ (i : Int)) ∧ 0 ≤ p.2 ∧ p.2 ≤ 1000 * (i : Int)
theorem Ws.start : Ws startT 0 := by
 refine ⟨fun p => ?_, fun p => ?_, fun p hp => ?_⟩
 · unfold startT; split <;> omega
 · unfold startT; split <;> simp
 · unfold startT at hp
   split at hp
   · rename_i h; subst h; simp
   · exact absurd rfl hp
theorem Ws.step {f : Int × Int → Int} {i : Nat} (h : Ws f i) (n r : Int) (hr : 0 ≤ r ∧ r ≤ 1000) : Ws (stepT n r f) (i + 1) := by
 have h2 : ((2 ^ (i + 1) : Nat) : Int) = 2 * ((2 ^ i : Nat) : Int) := by rw [Nat.pow_succ]; omega
 refine ⟨fun p => ?_, fun p => ?_, fun p hp => ?_⟩
 · unfold stepT
   have h3 := h.pos p
   have h4 := h.pos (p.1 - 1, p.2 - r)
   split <;> omega
 · unfold stepT
   have h3 := h.le p
   have h4 := h.le (p.1 - 1, p.2 - r)
   have h5 := h.pos p
   have h6 : (0 : Int) ≤ ((2 ^ i : Nat) : Int) := by omega
   rw [h2]
   split <;> omega
 · unfold stepT at hp
   by_cases h0 : f p = 0
   · have h4 : f (p.1 - 1, p.2 - r) ≠ 0 := by
      intro e
      rw [h0, e] at hp
      simp at hp
     have := h.sup _ h4
     simp only at this
     omega
   · have := h.sup p h0
     omega
theorem rd_mem (l : List Int) {i : Nat} (h : i < l.length) : rd l (i : Int) ∈ l := by
 unfold rd
 rw [Int.toNat_natCast, List.getD_eq_getElem?_getD, List.getElem?_eq_getElem h]
 exact List.getElem_mem h
theorem wT_ws (n : Int) (rs : List Int) (hr : ∀ r ∈ rs, 0 ≤ r ∧ r ≤ 1000) : ∀ i : Nat, i ≤ rs.length → Ws (wT n (rs.take i)) i := by
 intro i
 induction i with
 | zero => intro _; exact Ws.start
 | succ i ih =>
  intro h
  rw [take_rd rs h, wT_snoc]
  exact (ih (by omega)).step n _ (hr _ (rd_mem rs h))
def doneT (L : Int × Int → Bool) (f : Int × Int → Int) (p : Int × Int) : Int := if L p = true then 0 else f p
/-- What the next map holds while the entries in L are still to come. -/
def gOK (i : Nat) (n r : Int) (L : Int × Int → Bool) (f g : Int × Int → Int) : Prop := ∀ e, (kT (i + 1)).ok e → g e = doneT L f e + (if e.1 - 1 = n then 0 else doneT L f (e.1 - 1, e.2 - r))
def putsT (c : Int) (us : List (Int × Int)) (g : Int × Int → Int) : Int × Int → Int := us.foldl (fun g e => upd g e (g e + c)) g
theorem putsT_snoc (c : Int) (us : List (Int × Int)) (e : Int × Int) (g : Int × Int → Int) : putsT c (us ++ [e]) g = upd (putsT c us g) e (putsT c us g e + c) := by
 unfold putsT
 rw [List.foldl_append]
 rfl
theorem done_step (L : Int × Int → Bool) (f : Int × Int → Int) (x p : Int × Int) (hx : L x = true) : doneT (fun k => L k && !decide (k = x)) f p = doneT L f p + (if p = x then f x else 0) := by
 unfold doneT
 by_cases h : p = x
 · subst h
   simp [hx]
 · simp [h]
theorem gOK_step {i : Nat} {n r : Int} {L : Int × Int → Bool} {f g : Int × Int → Int} (h : gOK i n r L f g) (x : Int × Int) (hx : L x = true) : gOK i n r (fun k => L k && !decide (k = x)) f (putsT (f x) (usesT n x r) g) := by
 intro e he
 rw [done_step L f x e hx, done_step L f x (e.1 - 1, e.2 - r) hx]
 have h1 := h e he
 unfold usesT
 by_cases hn : x.1 = n
 · rw [if_pos hn]
   have h2 : putsT (f x) [x] g e = g e + (if e = x then f x else 0) := by
    unfold putsT upd
    simp only [List.foldl_cons, List.foldl_nil]
    by_cases h : e = x
    · rw [if_pos h, if_pos h, h]
    · rw [if_neg h, if_neg h]; omega
   rw [h2, h1]
   by_cases h3 : e.1 - 1 = n
   · rw [if_pos h3, if_pos h3]; omega
   · have h4 : ¬ (e.1 - 1, e.2 - r) = x := fun h => by
      rw [← h] at hn
      exact h3 hn
     rw [if_neg h3, if_neg h3, if_neg h4]
     omega
 · rw [if_neg hn]
   have hsx : ¬ (x.1 + 1, x.2 + r) = x := fun h => by
    have := congrArg Prod.fst h
    simp only at this
    omega
   have h2 : putsT (f x) [x, (x.1 + 1, x.2 + r)] g e = g e + (if e = x then f x else 0) + (if e = (x.1 + 1, x.2 + r) then f x else 0) := by
    unfold putsT upd
    simp only [List.foldl_cons, List.foldl_nil]
    by_cases h : e = (x.1 + 1, x.2 + r)
    · have h5 : ¬ e = x := fun h6 => hsx (by rw [← h, h6])
      rw [if_pos h, if_neg h5, if_pos h, if_neg hsx, ← h]
      omega
    · rw [if_neg h, if_neg h]
      by_cases h6 : e = x
      · rw [if_pos h6, if_pos h6, h6]; omega
      · rw [if_neg h6, if_neg h6]; omega
   rw [h2, h1]
   have h7 : (e.1 - 1, e.2 - r) = x ↔ e = (x.1 + 1, x.2 + r) := by
    constructor
    · intro h
      rw [← h]
      refine Prod.ext ?_ ?_ <;> simp only <;> omega
    · intro h
      rw [h]
      refine Prod.ext ?_ ?_ <;> simp only <;> omega
   by_cases h3 : e.1 - 1 = n
   · have h4 : ¬ e = (x.1 + 1, x.2 + r) := fun h => hn (by rw [h] at h3; simp only at h3; omega)
     rw [if_pos h3, if_pos h3, if_neg h4]
     omega
   · rw [if_neg h3, if_neg h3]
     by_cases h4 : e = (x.1 + 1, x.2 + r)
     · rw [if_pos h4, if_pos (h7.2 h4)]; omega
     · rw [if_neg h4, if_neg (fun h => h4 (h7.1 h))]; omega
theorem ok_of_ws {f : Int × Int → Int} {i : Nat} (h : Ws f i) (hi : i ≤ 40) {p : Int × Int} (hp : f p ≠ 0) : (kT i).ok p := by
 have := h.sup p hp
 exact ⟨by omega, by omega, hi⟩
theorem gOK_start {n r : Int} {L : Int × Int → Bool} {f : Int × Int → Int} {i : Nat} (h : Ws f i) (hi : i ≤ 40) (hL : ∀ k, (kT i).ok k → L k = false → f k = 0) : gOK i n r L f (fun _ => 0) := by
 have h0 : ∀ p, doneT L f p = 0 := fun p => by
  unfold doneT
  by_cases hp : f p = 0
  · rw [hp]; split <;> rfl
  · cases hq : L p with
    | true => rw [if_pos rfl]
    | false => exact absurd (hL p (ok_of_ws h hi hp) hq) hp
 intro e _
 rw [h0, h0]
 split <;> rfl
theorem gOK_end {n r : Int} {L : Int × Int → Bool} {f g : Int × Int → Int} {i : Nat} (h : Ws f i) (hi : i ≤ 40) (hg : gOK i n r L f g) (hL : ∀ k, (kT i).ok k → L k = false) : ∀ e, (kT (i + 1)).ok e → g e = stepT n r f e := by
 have h0 : ∀ p, doneT L f p = f p := fun p => by
  unfold doneT
  by_cases hp : f p = 0
  · rw [hp]; split <;> rfl
  · rw [hL p (ok_of_ws h hi hp)]; rfl
 intro e he
 rw [hg e he, h0, h0]
 rfl
theorem gOK_bound {n r : Int} {L : Int × Int → Bool} {f g : Int × Int → Int} {i : Nat} (h : Ws f i) (hi : i ≤ 40) (hg : gOK i n r L f g) (e : Int × Int) (he : (kT (i + 1)).ok e) : 0 ≤ g e ∧ g e ≤ 2199023255552 := by
 have h0 : ∀ p, 0 ≤ doneT L f p ∧ doneT L f p ≤ ((2 ^ i : Nat) : Int) := fun p => by
  have h1 := h.pos p
  have h2 := h.le p
  unfold doneT
  split <;> omega
 have h1 : (2 ^ i : Nat) ≤ 2 ^ 40 := Nat.pow_le_pow_right (by omega) hi
 have h2 : (2 ^ 40 : Nat) = 1099511627776 := by decide
 rw [hg e he]
 have h3 := h0 e
 have h4 := h0 (e.1 - 1, e.2 - r)
 split <;> omega
theorem MapF.congr {K : Type} {X : KeyX K} {w : World} {b n : Nat} {f g : K → Int} (h : MapF X w b n f) (he : ∀ k, X.ok k → f k = g k) : MapF X w b n g := by
 obtain ⟨D, h1, h2⟩ := h
 exact ⟨D, ⟨h1.map, fun k hk l hl => by rw [← he k hk]; exact h1.at_ k hk l hl, h1.all⟩, h2⟩

end Go.Proofs.Ythddeillkdediaa.H

/- Ways to give signs, counted. -/
namespace Go.Proofs.Ythddeillkdediaa.H
open Go.RowKit Go.Proofs.YthddeillkdediaaW.PrintWords Go.Proofs.YthddeillkdediaaW.PrintLast Go.Proofs.YthddeillkdediaaW.PrintMore
open Go.Shelf Go.Proofs.Ythddeillkdediaa.QA
set_option linter.unusedVariables false
set_option linter.unusedSimpArgs false

/-- Signed sums as keys. -/
def kS (i : Nat) : KeyX Int where
 t := 3
 enc := .int .i64
 ok := fun x => (-1000 * (i : Int) ≤ x ∧ x ≤ 1000 * (i : Int)) ∧ i ≤ 40
 keyed := Maps.int_keyed (q := .i64) Try.underlying3
 some := fun x h => kInt.some x ⟨by omega, by omega⟩
 inj := kInt.inj
/-- The ways after one more rank, with either sign. -/
def stepS (r : Int) (F : Int → Int) : Int → Int := fun e => F (e - r) + F (e + r)
def startS : Int → Int := fun p => if p = 0 then 1 else 0
/-- The ways to give signs to ranks, by their sum. -/
def wS (rs : List Int) : Int → Int := rs.foldl (fun F r => stepS r F) startS
theorem wS_snoc (rs : List Int) (r : Int) : wS (rs ++ [r]) = stepS r (wS rs) := by
 unfold wS
 rw [List.foldl_append]
 rfl
structure WsS (f : Int → Int) (i : Nat) : Prop where
 pos : ∀ p, 0 ≤ f p
 le : ∀ p, f p ≤ ((2 ^ i : Nat) : Int)
 sup : ∀ p, f p ≠ 0 → -1000 * (i : Int) ≤ p ∧ p ≤ 1000 * (i : Int)
theorem WsS.start : WsS startS 0 := by
 refine ⟨fun p => ?_, fun p => ?_, fun p hp => ?_⟩
 · unfold startS; split <;> omega
 · unfold startS; split <;> simp
 · unfold startS at hp
   split at hp
   · rename_i h; subst h; simp
   · exact absurd rfl hp
theorem WsS.step {f : Int → Int} {i : Nat} (h : WsS f i) (r : Int) (hr : 0 ≤ r ∧ r ≤ 1000) : WsS (stepS r f) (i + 1) := by
 have h2 : ((2 ^ (i + 1) : Nat) : Int) = 2 * ((2 ^ i : Nat) : Int) := by rw [Nat.pow_succ]; omega
 refine ⟨fun p => ?_, fun p => ?_, fun p hp => ?_⟩
 · unfold stepS
   have h3 := h.pos (p - r)
   have h4 := h.pos (p + r)
   omega
 · unfold stepS
   have h3 := h.le (p - r)
   have h4 := h.le (p + r)
   omega
 · unfold stepS at hp
   by_cases h0 : f (p - r) = 0
   · have h4 : f (p + r) ≠ 0 := by omega
     have := h.sup _ h4
     omega
   · have := h.sup _ h0
     omega
theorem wS_ws (rs : List Int) (hr : ∀ r ∈ rs, 0 ≤ r ∧ r ≤ 1000) : ∀ i : Nat, i ≤ rs.length → WsS (wS (rs.take i)) i := by
 intro i
 induction i with
 | zero => intro _; exact WsS.start
 | succ i ih =>
  intro h
  rw [take_rd rs h, wS_snoc]
  exact (ih (by omega)).step _ (hr _ (rd_mem rs h))
def doneS (L : Int → Bool) (f : Int → Int) (p : Int) : Int := if L p = true then 0 else f p
def gS (i : Nat) (r : Int) (L : Int → Bool) (f g : Int → Int) : Prop := ∀ e, (kS (i + 1)).ok e → g e = doneS L f (e - r) + doneS L f (e + r)
def putsS (c : Int) (us : List Int) (g : Int → Int) : Int → Int := us.foldl (fun g e => upd g e (g e + c)) g
theorem putsS_snoc (c : Int) (us : List Int) (e : Int) (g : Int → Int) : putsS c (us ++ [e]) g = upd (putsS c us g) e (putsS c us g e + c) := by
 unfold putsS
 rw [List.foldl_append]
 rfl
theorem doneS_step (L : Int → Bool) (f : Int → Int) (x p : Int) (hx : L x = true) : doneS (fun k => L k && !decide (k = x)) f p = doneS L f p + (if p = x then f x else 0) := by
 unfold doneS
 by_cases h : p = x
 · subst h
   simp [hx]
 · simp [h]
def usesS (x r : Int) : List Int := [x + r, x - r]
theorem gS_step {i : Nat} {r : Int} {L : Int → Bool} {f g : Int → Int} (h : gS i r L f g) (x : Int) (hx : L x = true) : gS i r (fun k => L k && !decide (k = x)) f (putsS (f x) (usesS x r) g) := by
 intro e he
 rw [doneS_step L f x (e - r) hx, doneS_step L f x (e + r) hx]
 have h1 := h e he
 have h2 : putsS (f x) (usesS x r) g e = g e + (if e = x + r then f x else 0) + (if e = x - r then f x else 0) := by
  unfold putsS usesS upd
  simp only [List.foldl_cons, List.foldl_nil]
  by_cases a : e = x - r
  · subst a
    rw [if_pos rfl, if_pos rfl]
    by_cases b : x - r = x + r
    · rw [if_pos b, if_pos b, b]
    · rw [if_neg b, if_neg b]; omega
  · rw [if_neg a, if_neg a]
    by_cases b : e = x + r
    · rw [if_pos b, if_pos b, b]; omega
    · rw [if_neg b, if_neg b]; omega
 rw [h2, h1]
 have h3 : (e - r = x) = (e = x + r) := propext ⟨fun h => by omega, fun h => by omega⟩
 have h4 : (e + r = x) = (e = x - r) := propext ⟨fun h => by omega, fun h => by omega⟩
 simp only [h3, h4]
 omega
theorem okS_of_ws {f : Int → Int} {i : Nat} (h : WsS f i) (hi : i ≤ 40) {p : Int} (hp : f p ≠ 0) : (kS i).ok p := ⟨h.sup p hp, hi⟩
theorem gS_start {i : Nat} {r : Int} {L : Int → Bool} {f : Int → Int} (h : WsS f i) (hi : i ≤ 40) (hL : ∀ k, (kS i).ok k → L k = false → f k = 0) : gS i r L f (fun _ => 0) := by
 have h0 : ∀ p, doneS L f p = 0 := fun p => by
  unfold doneS
  by_cases hp : f p = 0
  · rw [hp]; split <;> rfl
  · cases hq : L p with
    | true => rw [if_pos rfl]
    | false => exact absurd (hL p (okS_of_ws h hi hp) hq) hp
 intro e _
 rw [h0, h0]
 rfl
theorem gS_end {i : Nat} {r : Int} {L : Int → Bool} {f g : Int → Int} (h : WsS f i) (hi : i ≤ 40) (hg : gS i r L f g) (hL : ∀ k, (kS i).ok k → L k = false) : ∀ e, (kS (i + 1)).ok e → g e = stepS r f e := by
 have h0 : ∀ p, doneS L f p = f p := fun p => by
  unfold doneS
  by_cases hp : f p = 0
  · rw [hp]; split <;> rfl
  · rw [hL p (okS_of_ws h hi hp)]; rfl
 intro e he
 rw [hg e he, h0, h0]
 rfl
theorem gS_bound {i : Nat} {r : Int} {L : Int → Bool} {f g : Int → Int} (h : WsS f i) (hi : i ≤ 40) (hg : gS i r L f g) (e : Int) (he : (kS (i + 1)).ok e) : 0 ≤ g e ∧ g e ≤ 2199023255552 := by
 have h0 : ∀ p, 0 ≤ doneS L f p ∧ doneS L f p ≤ ((2 ^ i : Nat) : Int) := fun p => by
  have h1 := h.pos p
  have h2 := h.le p
  unfold doneS
  split <;> omega
 have h1 : (2 ^ i : Nat) ≤ 2 ^ 40 := Nat.pow_le_pow_right (by omega) hi
 have h2 : (2 ^ 40 : Nat) = 1099511627776 := by decide
 rw [hg e he]
 have h3 := h0 (e - r)
 have h4 := h0 (e + r)
 omega
theorem putsS_bound (c : Int) (hc : 0 ≤ c) : ∀ (us : List Int) (g : Int → Int) (e : Int), g e ≤ putsS c us g e ∧ putsS c us g e ≤ g e + us.length * c
 | [], g, e => by simp [putsS]
 | u :: us, g, e => by
  have h1 := putsS_bound c hc us (upd g u (g u + c)) e
  have h2 : putsS c (u :: us) g = putsS c us (upd g u (g u + c)) := rfl
  rw [h2]
  have h3 : g e ≤ upd g u (g u + c) e ∧ upd g u (g u + c) e ≤ g e + c := by
   unfold upd
   split
   · rename_i h; rw [h]; omega
   · omega
  have h4 : (((u :: us).length : Nat) : Int) * c = us.length * c + c := by rw [List.length_cons, Int.natCast_add, Int.add_mul]; simp
  omega
theorem usesS_ok {i : Nat} {r x : Int} (h : (kS i).ok x) (hi : i + 1 ≤ 40) (hr : 0 ≤ r ∧ r ≤ 1000) : ∀ e ∈ usesS x r, (kS (i + 1)).ok e := by
 obtain ⟨h1, h3⟩ := h
 intro e he
 unfold usesS at he
 rcases List.mem_cons.1 he with rfl | he
 · exact ⟨by omega, hi⟩
 · rw [List.mem_singleton.1 he]
   exact ⟨by omega, hi⟩
/-- hand.Paired$1 -/
theorem usesS_calls (x r : Int) (w : World) (h1 : -1000000 ≤ x ∧ x ≤ 1000000) (hr : 0 ≤ r ∧ r ≤ 1000) :
  Calls Try.prog 60 #[.int .i64 x, .int .i64 r] w fun e w' => ∃ g, e = .returned (.slice (some ⟨g, 0, none⟩) 2 2) ∧
   w'.heap[g]? = some (.cells #[.int .i64 (x + r), .int .i64 (x - r)] 3 (0, 0)) ∧ w.heap.size ≤ g ∧ Below w.heap.size w w' := by
 have e1 : wrap64 (x + r) = x + r := w64' _ (by omega) (by omega)
 have e2 : wrap64 (x - r) = x - r := w64' _ (by omega) (by omega)
 clear h1 hr
 go_enter Try.func60, Try.ntmps60
 go_wp2
 go_ret
 exact ⟨_, rfl, blk_new w (.cells #[.int .i64 (x + r), .int .i64 (x - r)] 3), Nat.le_refl _, below_alloc (Below.refl _ _) _⟩

end Go.Proofs.Ythddeillkdediaa.H

/- hand.count, of what was taken. -/
namespace Go.Proofs.Ythddeillkdediaa.H
open Go.RowKit Go.Proofs.YthddeillkdediaaW.PrintWords Go.Proofs.YthddeillkdediaaW.PrintLast Go.Proofs.YthddeillkdediaaW.PrintMore
open Go.Shelf Go.Proofs.Ythddeillkdediaa.QA
set_option linter.unusedVariables false
set_option linter.unusedSimpArgs false

def ct12_T : Bool × List (List Nat × List Nat) := (true, [([], []), ([], []), ([0, 1], [0, 1]), ([], []), ([2, 3], [2, 3]), ([0, 1, 0, 1, 3], [0, 1]), ([5], [5]), ([0, 6, 4, 5, 0, 1, 2, 3, 4, 5, 6], [0, 4, 6])])
def ct12_B : List Nat := [0, 0, 3, 0, 15, 11, 43, 127]
theorem ct12_tab : rtab .any (opsOf Try.f78 12) = ct12_T := by kernel_rfl
theorem ct12_bits : waitsOk ct12_T.2 ct12_B = true := by kernel_rfl
theorem cellsT_at : ∀ (us : List (Int × Int)) (j : Nat) (h : j < us.length), (cellsT us)[j * 2]? = some (.int .i64 (us[j]).1) ∧ (cellsT us)[j * 2 + 1]? = some (.int .i64 (us[j]).2)
 | u :: us, 0, _ => ⟨rfl, rfl⟩
 | u :: us, j + 1, h => by
  have := cellsT_at us j (by simpa using h)
  have e : cellsT (u :: us) = [.int .i64 u.1, .int .i64 u.2] ++ cellsT us := rfl
  rw [e, show (j + 1) * 2 = j * 2 + 2 by omega, show j * 2 + 2 + 1 = j * 2 + 1 + 2 by omega]
  simpa using this
theorem take_get {α : Type} (l : List α) {j : Nat} (h : j < l.length) : l.take (j + 1) = l.take j ++ [l[j]] := by
 rw [List.take_add_one, List.getElem?_eq_getElem h]
 rfl
theorem usesT_ok {i : Nat} {n r : Int} {x : Int × Int} (h : (kT i).ok x) (hi : i + 1 ≤ 40) (hr : 0 ≤ r ∧ r ≤ 1000) : (∀ e ∈ usesT n x r, (kT (i + 1)).ok e) ∧ (usesT n x r).length ≤ 2 := by
 obtain ⟨h1, h2, h3⟩ := h
 unfold usesT
 split
 · exact ⟨fun e he => by rw [List.mem_singleton.1 he]; exact ⟨by omega, by omega, hi⟩, by simp⟩
 · refine ⟨fun e he => ?_, by simp⟩
   rcases List.mem_cons.1 he with rfl | he
   · exact ⟨by omega, by omega, hi⟩
   · rw [List.mem_singleton.1 he]
     exact ⟨by dsimp only; omega, by dsimp only; omega, hi⟩
theorem putsT_bound (c : Int) (hc : 0 ≤ c) : ∀ (us : List (Int × Int)) (g : Int × Int → Int) (e : Int × Int), g e ≤ putsT c us g e ∧ putsT c us g e ≤ g e + us.length * c
 | [], g, e => by simp [putsT]
 | u :: us, g, e => by
  have h1 := putsT_bound c hc us (upd g u (g u + c)) e
  have h2 : putsT c (u :: us) g = putsT c us (upd g u (g u + c)) := rfl
  rw [h2]
  have h3 : g e ≤ upd g u (g u + c) e ∧ upd g u (g u + c) e ≤ g e + c := by
   unfold upd
   split
   · rename_i h; rw [h]; omega
   · omega
  have h4 : (((u :: us).length : Nat) : Int) * c = us.length * c + c := by rw [List.length_cons, Int.natCast_add, Int.add_mul]; simp
  omega
theorem grownBy_drew (w : World) : w.grownBy w.drew none := ⟨rfl, rfl, rfl, Nat.le_refl _, fun _ _ _ => rfl⟩
set_option maxHeartbeats 4000000 in
set_option maxRecDepth 100000 in
/-- hand.count, of what was taken. -/
theorem countT_calls (Ba : Nat) (A : Option Addr) (c : Nat) (a : List Int) (Ar : Option Addr) (cr : Nat) (rs : List Int) (w : World) (hba : w.heap[Ba]? = some (.cells #[.slice A a.length c] 71 (0, 0))) (hr : Kd.C (Kd.int .i64) w Ar rs.length rs) (hc : rs.length ≤ cr) (hl : rs.length ≤ 32) (hrs : ∀ r ∈ rs, 0 ≤ r ∧ r ≤ 1000) :
  Calls Try.prog 78 #[.agg #[.int .i64 0, .int .i64 0], .slice Ar rs.length cr, .func (.func 79) #[] #[.pointer (some ⟨Ba, 0, none⟩)]] w fun e w' => ∃ b n, e = .returned (.map (some b)) ∧ MapF (kT rs.length) w' b n (wT a.length rs) ∧ n ≤ 4294967296 ∧ w.heap.size ≤ b ∧ Below w.heap.size w w' := by
 have hu107 := Try.underlying107
 have hM : maxLen = 9223372036854775807 := rfl
 have hmm := @run_makeMap Try.prog
 obtain ⟨w1, hrun, hM1, hg1⟩ := (MapF.made (X := kT 0) (w.alloc (.cells #[.int .i64 0, .int .i64 0] 107))).put und104 (by omega) (k := (0, 0)) ⟨by simp, by simp, by omega⟩ 1
 have hbelow : Below w.heap.size w w1 := ((below_alloc (below_alloc (Below.refl w.heap.size w) (.cells #[.int .i64 0, .int .i64 0] 107)) (.map #[] 0))).grown hg1 (by simp; omega) (fun k e => by cases e; simp)
 rw [World.size_alloc] at hrun hM1
 have hbe : (kT 0).enc (0, 0) = .agg #[.int .i64 0, .int .i64 0] := rfl
 rw [hbe] at hrun
 have HM1 := Aside0.mk (hM1.congr (g := wT a.length (rs.take 0)) (fun k _ => by unfold upd wT startT; simp))
 have HB1 := Aside0.mk hbelow
 have HR := Aside0.mk hr
 have HBA := Aside0.mk hba
 have HRS := Aside0.mk hrs
 have HWS := Aside0.mk (wT_ws a.length rs hrs)
 clear hM1 hbelow hg1 hr hba hrs
 go_enter Try.func78, Try.ntmps78
 go_wp2
 clear hrun
 go_loopw [7, 20] (fun s7 s20 wr => ∃ (i b n : Nat), s7 = .map (some b) ∧ s20 = .int .i64 i ∧ Aside0 (i ≤ rs.length ∧ n ≤ 2 ^ i) ∧ Aside0 (MapF (kT i) wr b n (wT a.length (rs.take i))) ∧ Aside0 (w.heap.size ≤ b) ∧ Aside0 (Below w.heap.size w wr)) (fun _ s20 _ => rs.length - (intOf s20).toNat)
 case atStart => exact ⟨0, _, _, rfl, rfl, ⟨by simp⟩, HM1, ⟨by simp⟩, HB1⟩
 case round =>
  clear HM1 HB1
  obtain ⟨i, b, n, rfl, rfl, HI, HMP, HBB, HB⟩ := hrel
  rename World => wr
  by_cases hlt : i < rs.length
  · have hd1 : decide ((i : Int) < (rs.length : Int)) = true := decide_eq_true (by omega)
    have p1 : (0 : Int) ≤ (i : Int) := by omega
    have q1 : (i : Int) < (rs.length : Int) := by omega
    obtain ⟨ad, had, x0⟩ := Kd.at_int (Kd.C_below HR.out HB.out) (i : Int) p1 q1
    cases had
    rw [Int.toNat_natCast] at x0
    have HRR := Aside0.mk (HRS.out _ (rd_mem rs hlt))
    have HSU := Aside0.mk (show wT a.length (rs.take (i + 1)) = stepT a.length (rd rs i) (wT a.length (rs.take i)) by rw [take_rd rs hlt, wT_snoc])
    have HW := Aside0.mk (HWS.out i (by omega))
    have HI1 := Aside0.mk (show wrap64 ((i : Int) + 1) = ((i + 1 : Nat) : Int) by rw [w64' _ (by omega) (by omega)]; rfl)
    have HIL := Aside0.mk (show i + 1 ≤ rs.length ∧ i + 1 ≤ 40 ∧ i ≤ 40 by omega)
    generalize rd rs (i : Int) = r at x0 HRR HSU
    generalize wT a.length (rs.take i) = f at HMP HSU HW
    have HPW := Aside0.mk (show (2 ^ i : Nat) ≤ 4294967296 from Nat.le_trans (Nat.pow_le_pow_right (by omega) (show i ≤ 32 by omega)) (by decide))
    have hmk := MapF.made (X := kT (i + 1)) wr
    have hMw := HMP.out.below (below_alloc (Below.refl wr.heap.size wr) (.map #[] 0))
    clear hlt
    go_wp2_with (at_range; refine wpList_rangeF (X := kT i) rfl _ 104 rfl und104 b n f rfl hMw ?_; intro wi L cnt hrg hL hcnt hgw hsz)
    go_frame
    have HG0 := Aside0.mk (show MapF (kT (i + 1)) wi wr.heap.size 0 (fun _ => 0) from hmk.kept hgw (by simp))
    have HRG := Aside0.mk hrg
    have HGO := Aside0.mk (gOK_start (n := a.length) (r := r) HW.out HIL.out.2.2 hL)
    have HCN := Aside0.mk hcnt
    have hbw : Below w.heap.size w wi := (below_alloc HB.out (.map #[] 0)).grown hgw (by simp; have := HB.out.size; omega) (fun k e => by cases e)
    have HBW := Aside0.mk hbw
    have HNE := Aside0.mk (show wr.heap.size ≠ b by have := HMP.out.lt; omega)
    have HWR := Aside0.mk (show w.heap.size ≤ wr.heap.size from HB.out.size)
    clear hmk hMw hrg hL hcnt hgw hsz hbw
    rw [World.size_alloc] at HRG ⊢
    obtain ⟨b2, hb2⟩ : ∃ b2, b2 = wr.heap.size := ⟨_, rfl⟩
    rw [← hb2] at HG0 HRG HNE HWR ⊢
    clear hb2
    go_loopw [11] (fun _ wr => ∃ (L : Int × Int → Bool) (cnt n2 : Nat) (g : Int × Int → Int), Aside0 (RangeF (kT i) wr b (b2 + 1) f L cnt) ∧ Aside0 (MapF (kT (i + 1)) wr b2 n2 g) ∧ Aside0 (n2 + 2 * cnt ≤ 2 * n) ∧ Aside0 (gOK i a.length r L f g) ∧ Aside0 (Below w.heap.size w wr)) (fun _ wr => wr.rangeLeft b (b2 + 1))
    case atStart => exact ⟨L, cnt, 0, _, HRG, HG0, ⟨by have := HCN.out; omega⟩, HGO, HBW⟩
    case round =>
     clear HRG HG0 HCN HGO HBW
     obtain ⟨L, cnt, n2, g, HRG, HG, HN2, HGO, HBW⟩ := hrel
     rename World => wj
     go_wp2_with (at_next; refine wpList_nextF (X := kT i) rfl _ rfl b (b2 + 1) cnt f L rfl HRG.out ?_ ?_)
     · intro hL
       have HGE := Aside0.mk (HG.out.congr (gOK_end HW.out HIL.out.2.2 HGO.out (fun k => hL k.1 k.2)))
       clear hL
       go_wp2
       refine ⟨⟨i + 1, b2, n2, rfl, rfl, ⟨HIL.out.1, by have := HN2.out; have := HI.out.2; rw [Nat.pow_succ]; omega⟩, ⟨by rw [HSU.out]; exact HGE.out⟩, ⟨HWR.out⟩, HBW⟩, ?_⟩
       show rs.length - ((i : Int) + 1).toNat < rs.length - ((i : Int)).toNat
       have := HIL.out.1
       omega
     · intro x1 x2 w5 cnt5 hx hLx hrg5 hlt5 hg5 hs5 hen
       have hbx : (kT i).enc (x1, x2) = .agg #[.int .i64 x1, .int .i64 x2] := rfl
       rw [hbx] at hen ⊢
       have HX := Aside0.mk hx
       have HG5 := Aside0.mk (HG.out.kept hg5 (by simp))
       have HLQ := Aside0.mk HRG.out.left_eq
       have HGV := Aside0.mk (fun e he => gOK_bound HW.out HIL.out.2.2 HGO.out e he)
       have HR5 := Aside0.mk hrg5
       have HB5 := Aside0.mk (HBW.out.grown hg5 (by have := HBW.out.size; omega) (fun k e => by cases e; have := HWR.out; omega))
       have HS5 := Aside0.mk (gOK_step HGO.out (x1, x2) hLx)
       have HL5 := Aside0.mk hlt5
       have HC5 := Aside0.mk (And.intro (HW.out.pos (x1, x2)) (HW.out.le (x1, x2)))
       have hus := usesT_ok (n := a.length) hx HIL.out.2.1 HRR.out
       have HUS := Aside0.mk hus
       clear hx hLx hrg5 hlt5 hg5 hs5 hbx HG HRG HGO HBW hus
       generalize f (x1, x2) = cc at hen HC5 HS5
       generalize (fun k => L k && !decide (k = (x1, x2))) = L' at HR5 HS5
       go_wp2_with fail
       refine (uses_calls Ba A c a (x1, x2) r _ (blk_below HBA.out (below_alloc HB5.out _)) (by have := HX.out.1; have := HIL.out; omega) (by have := HX.out.2; have := HIL.out; omega) HRR.out).mono ?_
       rintro e w6 ⟨gB, rfl, hgb, hgl, hb6⟩
       have hW6 : Below w5.heap.size w5 w6 := (below_alloc (Below.refl w5.heap.size w5) (.cells #[.int .i64 x1, .int .i64 x2] 107)).trans (hb6.mono (by simp))
       have HG6 := Aside0.mk (HG5.out.below hW6)
       have HR6 := Aside0.mk (HR5.out.kept (grown_of_below hW6 none) (by simp) (by simp))
       have HB6 := Aside0.mk (HB5.out.trans (hW6.mono HB5.out.size))
       have HGB := Aside0.mk hgb
       clear hgb hgl hb6 hW6 HG5 HR5 HB5
       generalize usesT a.length (x1, x2) r = us at HUS HS5 HGB ⊢
       go_wp2
       go_loopw [37] (fun s37 wr => ∃ (j n3 : Nat), s37 = .int .i64 j ∧ Aside0 (j ≤ us.length ∧ n3 ≤ n2 + j) ∧ Aside0 (RangeF (kT i) wr b (b2 + 1) f L' cnt5) ∧ Aside0 (MapF (kT (i + 1)) wr b2 n3 (putsT cc (us.take j) g)) ∧ Aside0 (wr.heap[gB]? = some (.cells (cellsT us).toArray 107 (0, 0))) ∧ Aside0 (Below w.heap.size w wr)) (fun s37 _ => us.length - (intOf s37).toNat)
       case atStart => exact ⟨0, n2, rfl, ⟨by omega⟩, HR6, HG6, HGB, HB6⟩
       case round =>
        clear HR6 HG6 HGB HB6
        obtain ⟨j, n3, rfl, HJ, HR6, HG6, HGB, HB6⟩ := hrel
        rename World => wr
        by_cases hlj : j < us.length
        · have hdj : decide ((j : Int) < (us.length : Int)) = true := decide_eq_true (by omega)
          have pj : (0 : Int) ≤ (j : Int) := by omega
          have qj : (j : Int) < (us.length : Int) := by omega
          obtain ⟨k1, k2⟩ := cellsT_at us j hlj
          have hcs1 : (cellsT us).toArray[j * 2]? = some (.int .i64 (us[j]).1) := by rw [List.getElem?_toArray]; exact k1
          have hcs2 : (cellsT us).toArray[j * 2 + 1]? = some (.int .i64 (us[j]).2) := by rw [List.getElem?_toArray]; exact k2
          have x1c : wr.cell? ⟨gB, j * 2, none⟩ = some (.int .i64 (us[j]).1) := (blk_cell HGB.out (j * 2)).trans hcs1
          have x2c : wr.cell? ⟨gB, j * 2 + 1, none⟩ = some (.int .i64 (us[j]).2) := (blk_cell HGB.out (j * 2 + 1)).trans hcs2
          have HOK := Aside0.mk (HUS.out.1 _ (List.getElem_mem hlj))
          have HPU := Aside0.mk (show putsT cc (us.take (j + 1)) g = upd (putsT cc (us.take j) g) us[j] (putsT cc (us.take j) g us[j] + cc) by rw [take_get us hlj, putsT_snoc])
          have HJ1 := Aside0.mk (show wrap64 ((j : Int) + 1) = ((j + 1 : Nat) : Int) by have := HUS.out.2; rw [w64' _ (by omega) (by omega)]; rfl)
          have HJL := Aside0.mk hlj
          clear k1 k2 hcs1 hcs2
          generalize us[j] = e at x1c x2c HOK HPU
          clear hlj
          obtain ⟨e1, e2⟩ := e
          dsimp only at x1c x2c
          have HQ0 := Aside0.mk (show MapF (kT (i + 1)) (wr.alloc (.cells #[.int .i64 e1, .int .i64 e2] 107)).drew b2 n3 (putsT cc (us.take j) g) from (HG6.out.below (below_alloc (Below.refl wr.heap.size wr) _)).same rfl)
          obtain ⟨st, w1e, hme, hM1, hg1e, hes0⟩ := HQ0.out.entry und104 (by have := HJ.out.2; have := HN2.out; have := HI.out.2; have := HPW.out; have := HUS.out.2; have := HJ.out.1; omega) HOK.out
          have hbe2 : (kT (i + 1)).enc (e1, e2) = .agg #[.int .i64 e1, .int .i64 e2] := rfl
          have hlk := HQ0.out.look und104 HOK.out
          have hlk1 := hM1.look und104 HOK.out
          rw [hbe2] at hme hlk hlk1
          obtain ⟨gv, hgv⟩ : ∃ gv, putsT cc (us.take j) g (e1, e2) = gv := ⟨_, rfl⟩
          rw [hgv] at hme hlk hlk1 HPU
          obtain ⟨w3e, hes, hM3, hg3e⟩ := hes0 w1e (gv + cc) rfl
          have e45 : wrap64 (gv + cc) = gv + cc := by
           have b1 := HGV.out (e1, e2) HOK.out
           have b2 := HC5.out
           have b3 := putsT_bound cc b2.1 (us.take j) g (e1, e2)
           rw [hgv, List.length_take] at b3
           have b4 := HPW.out
           have b5 := HUS.out.2
           have b6 : ((min j us.length : Nat) : Int) * cc ≤ 2 * cc := Int.mul_le_mul_of_nonneg_right (by omega) b2.1
           exact w64' _ (by omega) (by omega)
          have hne2 : wr.heap.size ≠ b2 := by have := HG6.out.lt; omega
          have hnew := blk_new wr (.cells #[.int .i64 e1, .int .i64 e2] 107)
          have hnewd : (wr.alloc (.cells #[.int .i64 e1, .int .i64 e2] 107)).drew.heap[wr.heap.size]? = some (.cells #[.int .i64 e1, .int .i64 e2] 107 (0, 0)) := hnew
          have hnew1 : w1e.heap[wr.heap.size]? = some (.cells #[.int .i64 e1, .int .i64 e2] 107 (0, 0)) := (hg1e.block _ (blk_lt2 hnewd) (fun h => hne2 (by cases h; rfl))).trans hnewd
          have KK := Aside0.mk (And.intro ((blk_cell hnewd 0).trans rfl : _ = some (Value.int .i64 e1)) (And.intro ((blk_cell hnewd 1).trans rfl : _ = some (Value.int .i64 e2)) hlk))
          have KK1 := Aside0.mk (And.intro ((blk_cell hnew1 0).trans rfl : _ = some (Value.int .i64 e1)) (And.intro ((blk_cell hnew1 1).trans rfl : _ = some (Value.int .i64 e2)) hlk1))
          have HME := Aside0.mk hme
          have HES := Aside0.mk hes
          have HM3 := Aside0.mk hM3
          have HR9 := Aside0.mk ((((HR6.out.kept (World.grownBy_alloc wr (.cells #[.int .i64 e1, .int .i64 e2] 107) none) (by simp) (by simp)).kept (grownBy_drew _) (by simp) (by simp)).kept hg1e (fun h => HNE.out (by cases h; rfl)) (by simp)).kept hg3e (fun h => HNE.out (by cases h; rfl)) (by simp))
          have hbq : Below w.heap.size w (wr.alloc (.cells #[.int .i64 e1, .int .i64 e2] 107)).drew := pw_below_drewN (below_alloc HB6.out _) 1
          have hb1 : Below w.heap.size w w1e := hbq.grown hg1e hbq.size (fun k h => by cases h; exact HWR.out)
          have HB9 := Aside0.mk (show Below w.heap.size w w3e from hb1.grown hg3e hb1.size (fun k h => by cases h; exact HWR.out))
          have hgb9 : (wr.alloc (.cells #[.int .i64 e1, .int .i64 e2] 107)).drew.heap[gB]? = some (.cells (cellsT us).toArray 107 (0, 0)) := blk_alloc HGB.out _
          have hgne : gB ≠ b2 := fun h => by
           obtain ⟨D, _, es, clock, hb, _⟩ := HG6.out
           rw [← h, HGB.out] at hb
           cases hb
          have hgb10 := (hg1e.block _ (blk_lt2 hgb9) (fun h => hgne (by cases h; rfl))).trans hgb9
          have HGB9 := Aside0.mk ((hg3e.block _ (blk_lt2 hgb10) (fun h => hgne (by cases h; rfl))).trans hgb10)
          clear hme hM1 hg1e hes0 hlk hlk1 hgv hes hM3 hg3e hne2 hnew hnewd hnew1 hbq hb1 hgb9 hgne hgb10 hbe2
          clear HQ0 HR6 HG6 HGB HB6
          go_wp2
          refine start_ (n := 8) (S := fun w' => w'.cell? ⟨wr.heap.size, 0, none⟩ = some (.int .i64 e1) ∧ w'.cell? ⟨wr.heap.size, 1, none⟩ = some (.int .i64 e2) ∧ (Instr.lookup 104 (.map (some b2)) (.agg #[.int .i64 e1, .int .i64 e2]) false).run Try.prog w' = .ok (.int .i64 gv) w') (ds := [7]) #[false, false, false, false, false, false, false, false] (by kernel_rfl) rfl rfl KK.out (fun hHeld => ?_)
          refine with_tabW ct12_tab ct12_bits (fun HT_ HW_ => ?_)
          refine take_ (i := 0) (N := some 41) (v := ?_) (a' := ?_) #[true, false, false, false, false, false, false, false] rfl rfl (take_ofW HT_.out HW_.out (by kernel_rfl)) (fun _ _ _ h => h) (Or.inl ⟨by rfl, ?_⟩) hHeld ?_ ?_
          rotate_left
          · rintro w' ⟨s0, s1, s2⟩
            go_simp
            with_reducible rfl
          rotate_left
          · simp only [Act.put, List.setIfInBounds_toArray, List.set_cons_zero, List.set_cons_succ, i64_w, i32_w]
            rfl
          refine take_ (i := 1) (N := some 42) (v := ?_) (a' := ?_) #[true, true, false, false, false, false, false, false] rfl rfl (take_ofW HT_.out HW_.out (by kernel_rfl)) (fun _ _ _ h => h) (Or.inl ⟨by rfl, ?_⟩) hHeld ?_ ?_
          rotate_left
          · rintro w' ⟨s0, s1, s2⟩
            go_simp
            with_reducible rfl
          rotate_left
          · simp only [Act.put, List.setIfInBounds_toArray, List.set_cons_zero, List.set_cons_succ, i64_w, i32_w]
            rfl
          refine take_ (i := 3) (N := some 44) (v := ?_) (a' := ?_) #[true, true, false, true, false, false, false, false] rfl rfl (take_ofW HT_.out HW_.out (by kernel_rfl)) (fun _ _ _ h => h) (Or.inl ⟨by rfl, ?_⟩) hHeld ?_ ?_
          rotate_left
          · rintro w' ⟨s0, s1, s2⟩
            go_simp
            with_reducible rfl
          rotate_left
          · simp only [Act.put, List.setIfInBounds_toArray, List.set_cons_zero, List.set_cons_succ, i64_w, i32_w]
            rfl
          refine take_ (i := 2) (N := some 43) (v := ?_) (a' := ?_) #[true, true, true, true, false, false, false, false] rfl rfl (take_ofW HT_.out HW_.out (by kernel_rfl)) (fun _ _ _ h => h) (Or.inl ⟨by rfl, ?_⟩) hHeld ?_ ?_
          rotate_left
          · rintro w' ⟨s0, s1, s2⟩
            go_simp
            with_reducible rfl
          rotate_left
          · simp only [Act.put, List.setIfInBounds_toArray, List.set_cons_zero, List.set_cons_succ, i64_w, i32_w]
            rfl
          refine take_ (i := 4) (N := some 45) (v := ?_) (a' := ?_) #[true, true, true, true, true, false, false, false] rfl rfl (take_ofW HT_.out HW_.out (by kernel_rfl)) (fun _ _ _ h => h) (Or.inl ⟨by rfl, ?_⟩) hHeld ?_ ?_
          rotate_left
          · rintro w' ⟨s0, s1, s2⟩
            go_simp
            with_reducible rfl
          rotate_left
          · simp only [Act.put, List.setIfInBounds_toArray, List.set_cons_zero, List.set_cons_succ, i64_w, i32_w]
            rfl
          refine one_ (i := 5) (N := some 46) #[true, true, true, true, true, true, false, false] rfl rfl (one_of HT_.out (by kernel_rfl)) (by decide) (fun K hK => ?_)
          have hme := HME.out
          refine value_ (v := .tuple #[.int .i64 gv, goInt st]) (w1 := w1e) (by rfl) rfl (by go_simp) ?_
          clear hme
          refine hK.out _ _ KK1.out (fun hHeld => ?_)
          clear hK K
          refine norm_ (a' := ?_) ?_ ?_
          rotate_left
          · show Act.put _ (some 46) _ = _
            simp only [Act.put, List.setIfInBounds_toArray, List.set_cons_zero, List.set_cons_succ, i64_w, i32_w]
            rfl
          refine take_ (i := 6) (N := some 47) (v := ?_) (a' := ?_) #[true, true, true, true, true, true, true, false] rfl rfl (take_ofW HT_.out HW_.out (by kernel_rfl)) (fun _ _ _ h => h) (Or.inl ⟨by rfl, ?_⟩) hHeld ?_ ?_
          rotate_left
          · rintro w' ⟨s0, s1, s2⟩
            go_simp
            with_reducible rfl
          rotate_left
          · simp only [Act.put, List.setIfInBounds_toArray, List.set_cons_zero, List.set_cons_succ, i64_w, i32_w]
            rfl
          refine last_ (i := 7) (N := none) #[true, true, true, true, true, true, true, true] rfl rfl (one_of HT_.out (by kernel_rfl)) (by decide) (fun K hK => ?_)
          have hes := HES.out
          have hgi : goInt (st : Int) = .int .i64 (st : Int) := rfl
          rw [hgi] at hes
          refine store_step (by rfl) rfl (w1 := w3e) (by go_simp) ?_
          clear hes
          refine hK.out _ _ ?_
          clear hK K
          refine done_ (done_of HT_.out (by kernel_rfl)) ?_
          go_wp2
          refine ⟨⟨j + 1, n3 + 1, congrArg _ HJ1.out, ⟨by have := HJ.out; have := HJL.out; omega⟩, HR9, ⟨by rw [HPU.out]; exact HM3.out⟩, HGB9, HB9⟩, ?_⟩
          rw [HJ1.out]
          show us.length - (((j + 1 : Nat) : Int)).toNat < us.length - ((j : Int)).toNat
          have := HJL.out
          omega
        · have hdj : decide ((j : Int) < (us.length : Int)) = false := decide_eq_false (by omega)
          obtain rfl : j = us.length := by have := HJ.out; omega
          have hg7 := HG6.out
          rw [List.take_length] at hg7
          have HG7 := Aside0.mk hg7
          clear hg7
          go_wp2
          refine ⟨⟨L', cnt5, n3, _, HR6, HG7, ⟨by have := HJ.out; have := HN2.out; have := HL5.out; have := HUS.out; omega⟩, HS5, HB6⟩, ?_⟩
          rw [HR6.out.left_eq, HLQ.out]
          exact HL5.out
  · have hd1 : decide ((i : Int) < (rs.length : Int)) = false := decide_eq_false (by omega)
    obtain rfl : i = rs.length := by have := HI.out; omega
    go_wp2
    go_ret
    have := HMP.out
    rw [List.take_length] at this
    exact ⟨b, n, rfl, this, Nat.le_trans HI.out.2 (Nat.le_trans (Nat.pow_le_pow_right (by omega) hl) (by decide)), HBB.out, HB.out⟩

end Go.Proofs.Ythddeillkdediaa.H
