/- A map whose keys are pairs of numbers, read as a function. -/
import Derived.Maps.OwnIn
import Derived.Maps.Views
import Derived.DeepKeys4
import Derived.ProofKit
import Derived.Test.YtkocigldchiifaaQA0
namespace Go.Proofs.Ytkocigldchiifaa.H
open Go.RowKit Go.Proofs.YtkocigldchiifaaW.PrintWords Go.Proofs.YtkocigldchiifaaW.PrintLast Go.Proofs.YtkocigldchiifaaW.PrintMore
open Go.Proofs.Ytkocigldchiifaa.QA
set_option linter.unusedVariables false
set_option linter.unusedSimpArgs false

theorem wide25 : (match Try.prog.underlying 25 with | some (.array _ _) | some (.struct _) => true | _ => false) = true := by rw [Try.underlying25]
set_option maxRecDepth 100000
theorem row25 : (25 : TypeId) < Try.prog.types.size := of_decide_eq_true (by kernel_rfl)
theorem laid7 : laidOutB Try.prog = true := by kernel_rfl
theorem law25 : WideMaps.KeyLaw Try.prog 25 := deep_law_laid laid7 (m := 2) (by omega) row25 (by kernel_rfl) wide25
theorem keyed25 : Maps.Keyed Try.prog 25 := Maps.Keyed.of_law law25
/-- A pair as a key. -/
def pv (i k : Int) : Value := .agg #[.int .i64 i, .int .i64 k]
def inr (i k : Int) : Prop := (-1 ≤ i ∧ i ≤ 1000) ∧ (-1 ≤ k ∧ k ≤ 1000)
theorem keyT25 : Try.prog.keyType 25 = true := by kernel_rfl
theorem cells25 : Try.prog.cellsOf 25 = 2 := by kernel_rfl
theorem wf_of (x : Int) (h : -1 ≤ x ∧ x ≤ 1000) : (Lit.int .i64 x).wf = true := by
 have e1 : IntKind.i64.min = -9223372036854775808 := by decide
 have e2 : IntKind.i64.max = 9223372036854775807 := by decide
 simp [Lit.wf, e1, e2]
 omega
theorem key_some (i k : Int) (h : inr i k) : ∃ l, keyOf Try.prog 25 (pv i k) = some l := by
 have h3 : Try.prog.underlying 3 = some (.int .i64) := Try.underlying3
 have w1 := wf_of i h.1
 have w2 := wf_of k h.2
 obtain ⟨m, hm⟩ : ∃ m, Try.prog.types.size = m + 1 := ⟨_, (by kernel_rfl : Try.prog.types.size = (Try.prog.types.size - 1) + 1)⟩
 have c3 : Try.prog.cellsOf 3 = 1 := by kernel_rfl
 unfold keyOf pv
 rw [Try.underlying25, hm]
 simp [keyT25, Value.formed, Try.underlying25, cells25, Program.keyLits, h3, w1, w2, c3, Value.cells]

/-- How elements are laid and read. -/
structure Elem (E : Type) where
 enc : E → Value
 R : Value → Option (DataW Unit × List MemPlace)
 dat : E → DataW Unit
 fwd : ∀ e, R (enc e) = some (dat e, [])
 back : ∀ v e ps, R v = some (dat e, ps) → v = enc e
def RI : Value → Option (DataW Unit × List MemPlace)
 | .int .i64 a => some (.lit (.int .i64 a), [])
 | _ => none
def RP : Value → Option (DataW Unit × List MemPlace)
 | .agg cs => match cs.toList with
  | [.int .i64 a, .int .i64 b] => some (.agg [.lit (.int .i64 a), .lit (.int .i64 b)], [])
  | _ => none
 | _ => none
def eI : Elem Int := ⟨fun a => .int .i64 a, RI, fun a => .lit (.int .i64 a), fun _ => rfl, fun v e ps h => by
 unfold RI at h
 split at h
 · simp at h; rw [h.1]
 · cases h⟩
def eP : Elem S25 := ⟨fun a => pv a.f0 a.f1, RP, fun a => .agg [.lit (.int .i64 a.f0), .lit (.int .i64 a.f1)], fun _ => rfl, fun v e ps h => by
 unfold RP at h
 split at h
 · rename_i cs
   split at h
   · rename_i hcs
     simp at h
     unfold pv
     rw [← h.1.1, ← h.1.2]
     congr 1
     exact Array.ext' hcs
   · cases h
 · cases h⟩
section
variable {E : Type} {X : Elem E}
/-- Block b is a map of at most n entries that reads as f. -/
def MapF (X : Elem E) (w : World) (b n : Nat) (f : Int → Int → Option E) : Prop :=
 ∃ D : DataW Unit, Maps.IsMap D ∧ w.ownsMap Try.prog 25 X.R b n D ∧ ∀ i k, inr i k → ∀ l, keyOf Try.prog 25 (pv i k) = some l → Maps.has D l = (f i k).isSome ∧ ∀ e, f i k = some e → ∀ z, D.atKey l z = X.dat e
def upd (f : Int → Int → Option E) (i k : Int) (e : E) : Int → Int → Option E := fun a b => if a = i ∧ b = k then some e else f a b
theorem MapF.made (w : World) : MapF X (w.alloc (.map #[] 0)) w.heap.size 0 (fun _ _ => none) :=
 ⟨.map [], ⟨[], rfl⟩, World.ownsMap_made w Try.prog 25 X.R, fun i k _ l _ => ⟨rfl, fun e h => by cases h⟩⟩
theorem MapF.same {w w' : World} {b n : Nat} {f : Int → Int → Option E} (h : MapF X w b n f) (he : w'.heap[b]? = w.heap[b]?) : MapF X w' b n f := by
 obtain ⟨D, h1, ⟨es, clock, hb, h2⟩, h3⟩ := h
 exact ⟨D, h1, ⟨es, clock, he.trans hb, h2⟩, h3⟩
theorem MapF.lt {w : World} {b n : Nat} {f : Int → Int → Option E} (h : MapF X w b n f) : b < w.heap.size := by
 obtain ⟨D, h1, h2, h3⟩ := h
 exact h2.lt
theorem MapF.below {w w' : World} {b n : Nat} {f : Int → Int → Option E} (h : MapF X w b n f) (hb : Below w.heap.size w w') : MapF X w' b n f := h.same (hb.block _ h.lt)
theorem MapF.mono {w : World} {b n n' : Nat} {f : Int → Int → Option E} (h : MapF X w b n f) (hn : n ≤ n') : MapF X w b n' f := by
 obtain ⟨D, h1, h2, h3⟩ := h
 exact ⟨D, h1, h2.mono hn, h3⟩
theorem MapF.look {w : World} {b n : Nat} {f : Int → Int → Option E} {t et : TypeId} {z : E} (h : MapF X w b n f) (ht : Try.prog.underlying t = some (.map 25 et)) (hz : (zeroValue et).run Try.prog w = .ok (X.enc z) w) {i k : Int} (hi : inr i k) :
  (Instr.lookup t (.map (some b)) (pv i k) false).run Try.prog w = .ok (X.enc ((f i k).getD z)) w := by
 obtain ⟨D, h1, h2, h3⟩ := h
 obtain ⟨l, hl⟩ := key_some i k hi
 obtain ⟨v, ps, hrun, hv⟩ := h2.lookup keyed25 ht hz (X.fwd z) hl
 obtain ⟨h4, h5⟩ := h3 i k hi l hl
 cases hf : f i k with
 | none =>
  rw [hf] at h4
  rw [Maps.atKey_of_not_has h4] at hv
  rw [hrun, X.back v z ps hv]
  rfl
 | some e =>
  rw [h5 e hf] at hv
  rw [hrun, X.back v e ps hv]
  rfl
theorem MapF.look_ok {w : World} {b n : Nat} {f : Int → Int → Option E} {t et : TypeId} {z : E} (h : MapF X w b n f) (ht : Try.prog.underlying t = some (.map 25 et)) (hz : (zeroValue et).run Try.prog w = .ok (X.enc z) w) {i k : Int} (hi : inr i k) :
  (Instr.lookup t (.map (some b)) (pv i k) true).run Try.prog w = .ok (.tuple #[X.enc ((f i k).getD z), .bool (f i k).isSome]) w := by
 obtain ⟨D, h1, h2, h3⟩ := h
 obtain ⟨l, hl⟩ := key_some i k hi
 obtain ⟨v, ps, hrun, hv⟩ := h2.look_ok keyed25 ht hz (X.fwd z) hl
 obtain ⟨h4, h5⟩ := h3 i k hi l hl
 rw [h4] at hrun
 cases hf : f i k with
 | none =>
  rw [hf] at h4 hrun
  rw [Maps.atKey_of_not_has h4] at hv
  rw [hrun, X.back v z ps hv]
  rfl
 | some e =>
  rw [hf] at hrun
  rw [h5 e hf] at hv
  rw [hrun, X.back v e ps hv]
  rfl
theorem MapF.put {w : World} {b n : Nat} {f : Int → Int → Option E} {t et : TypeId} (h : MapF X w b n f) (ht : Try.prog.underlying t = some (.map 25 et)) (hn : n < maxLen) {i k : Int} (hi : inr i k) (e : E) :
  ∃ w', (Instr.mapUpdate t (.map (some b)) (pv i k) (X.enc e)).run Try.prog w = .ok () w' ∧ MapF X w' b (n + 1) (upd f i k e) ∧ w.grownBy w' (some b) := by
 obtain ⟨D, h1, h2, h3⟩ := h
 obtain ⟨l, hl⟩ := key_some i k hi
 obtain ⟨w', hrun, h4, h5⟩ := h2.update keyed25 ht hn hl (X.fwd e)
 refine ⟨w', hrun, ⟨_, h1.put _ _, h4, fun a c ha l' hl' => ?_⟩, h5⟩
 by_cases he : a = i ∧ c = k
 · obtain ⟨rfl, rfl⟩ := he
   obtain rfl : l' = l := Option.some.inj (hl'.symm.trans hl)
   refine ⟨?_, fun e' h' z => ?_⟩
   · rw [Maps.has_put_same h1 (keyed25.key hl')]
     simp [upd]
   · rw [Maps.atKey_put_same h1 (keyed25.key hl')]
     simp [upd] at h'
     rw [h']
 · have hne : l' ≠ l := fun e => he (by
     subst e
     have := keyed25.inj hl' hl
     unfold pv at this
     simp at this
     exact this)
   obtain ⟨h6, h7⟩ := h3 a c ha l' hl'
   refine ⟨?_, fun e' h' z => ?_⟩
   · rw [Maps.has_put_other hne, h6]
     simp [upd, he]
   · rw [Maps.atKey_put_other hne]
     simp [upd, he] at h'
     exact h7 e' h' z
end
theorem und87 : Try.prog.underlying 87 = some (.map 25 3) := by kernel_rfl
theorem und100 : Try.prog.underlying 100 = some (.map 25 25) := by kernel_rfl
theorem zero3 (w : World) : (zeroValue 3).run Try.prog w = .ok (.int .i64 0) w := by kernel_rfl
theorem zero25 (w : World) : (zeroValue 25).run Try.prog w = .ok (pv 0 0) w := by kernel_rfl
end Go.Proofs.Ytkocigldchiifaa.H
