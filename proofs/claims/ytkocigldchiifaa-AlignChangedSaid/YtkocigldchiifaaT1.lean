/- A take, opened; for the rows of chapter 07. -/
import Derived.Test.YtkocigldchiifaaT0
import Derived.Lib.SmallJoins
import Derived.Laws.IdiomArrays
import Derived.OpenShut
namespace Go.Proofs.Ytkocigldchiifaa.H
open Go.RowKit Go.Proofs.YtkocigldchiifaaW.PrintWords Go.Proofs.YtkocigldchiifaaW.PrintLast Go.Proofs.YtkocigldchiifaaW.PrintMore
open Go.ChangeShapes Go.WideShapes Go.Joins Go.Proofs.Ytkocigldchiifaa.QA
set_option linter.unusedVariables false
set_option linter.unusedSimpArgs false

theorem wf_byte {a : Int} (h : (Lit.int .u8 a).wf = true) : isByte a := by
 simp [Lit.wf, IntKind.min, IntKind.max, IntKind.signed, IntKind.bits] at h
 unfold isByte
 omega
theorem rows111 {W : World} {a : Addr} {len cap : Nat} (hl : len ≤ cap) (hm : cap ≤ maxLen)
  (hq : ∀ i, i < len → ∃ x : S59, Byte3 x ∧ W.cell? (a.add (i * 3)) = some (.int .u8 x.f0) ∧ W.cell? (a.add (i * 3 + 1)) = some (.int .u8 x.f1) ∧ W.cell? (a.add (i * 3 + 2)) = some (.int .u8 x.f2)) :
  ∃ l : List S59, len = l.length ∧ Kd.C k111 W (some a) l.length l ∧ ∀ x ∈ l, Byte3 x := by
 have hM : maxLen = 9223372036854775807 := rfl
 obtain ⟨F, hF⟩ : ∃ F : Nat → S59, ∀ i, i < len → Byte3 (F i) ∧ W.cell? (a.add (i * 3)) = some (.int .u8 (F i).f0) ∧ W.cell? (a.add (i * 3 + 1)) = some (.int .u8 (F i).f1) ∧ W.cell? (a.add (i * 3 + 2)) = some (.int .u8 (F i).f2) :=
  ⟨fun i => if h : i < len then (hq i h).choose else z59, fun i h => by dsimp only; rw [dif_pos h]; exact (hq i h).choose_spec⟩
 refine ⟨(List.range len).map F, by simp, ⟨rfl, by simp; omega, fun _ => ⟨a, rfl, fun j p hj => ?_⟩⟩, fun x hx => ?_⟩
 · have hjl : j < len := by have := (List.getElem?_eq_some_iff.1 hj).1; simpa using this
   rw [List.getElem?_map, List.getElem?_range hjl] at hj
   obtain rfl := Option.some.inj hj
   obtain ⟨_, h1, h2, h3⟩ := hF j hjl
   refine ⟨_, rfl, k111_mk _ _, fun i u hu => ?_⟩
   match i, hu with
   | 0, hu => rw [← Option.some.inj hu]; exact h1
   | 1, hu => rw [← Option.some.inj hu]; exact h2
   | 2, hu => rw [← Option.some.inj hu]; exact h3
 · obtain ⟨j, hj, rfl⟩ := List.mem_map.1 hx
   exact (hF j (by have := List.mem_range.1 hj; omega)).1
theorem trod_array3' {H : Type} {enc : TypeId × Value → H} {P : Program} {w : World} {base : Nat} {spare : Nat → Bool} {held : Bool} {t e : TypeId} {fuel : Nat} {c0 c1 c2 : Value} {x : DataW H × List MemPlace} (ht : P.underlying t = some (.array 3 e)) (hce : P.cellsOf e = 1)
  (h : DataW.trod enc P w base spare held fuel t [c0, c1, c2] = some x) : ∃ y0 y1 y2 n, DataW.trod enc P w base spare held n e [c0] = some y0 ∧ DataW.trod enc P w base spare held n e [c1] = some y1 ∧ DataW.trod enc P w base spare held n e [c2] = some y2 := by
 obtain ⟨xs, m, _, _, _, hl, hi⟩ := DataW.trod_array ht h
 match xs, hl with
 | [y0, y1, y2], _ => exact ⟨y0, y1, y2, m, by simpa [hce] using hi 0 (by omega), by simpa [hce] using hi 1 (by omega), by simpa [hce] using hi 2 (by omega)⟩
set_option maxRecDepth 100000 in
theorem open_take {H : Type} {enc : TypeId × Value → H} {W : World} {r : Reach} {b0 : Nat} {v : Value} {d : DataW H} {p : List MemPlace}
  (hv : Value.okWide Try.prog W r b0 55 v) (h : DataW.Trod enc Try.prog W 0 (fun _ => true) true 55 v d p) :
  ∃ A c l, v = .slice A l.length c ∧ l.length ≤ c ∧ Kd.C k111 W A l.length l ∧ ∀ x ∈ l, Byte3 x := by
 obtain ⟨A, n, c, rfl⟩ := okWide_slice Try.underlying55 hv
 have e5 : Try.prog.cellsOf 5 = 1 := by kernel_rfl
 have e55 : Try.prog.cellsOf 55 = 1 := by kernel_rfl
 have e111 : Try.prog.cellsOf 111 = 3 := by kernel_rfl
 have u55 : Try.prog.underlying 55 = some (.slice 111) := by kernel_rfl
 have u111 : Try.prog.underlying 111 = some (.array 3 5) := by kernel_rfl
 have u5 : Try.prog.underlying 5 = some (.int .u8) := by kernel_rfl
 obtain ⟨fuel, hf⟩ := h
 rcases Go.Deep.open_slice u55 hf with ⟨hcs, _⟩ | ⟨a, len, cap, m, n3, D, Pl, hcs, _, hl, hm, hmm, _, hel⟩
 · simp [Value.cells] at hcs
   obtain ⟨rfl, rfl, rfl⟩ := hcs
   exact ⟨none, 0, [], rfl, Nat.le_refl _, Kd.C_nil _ _, fun x hx => by simp at hx⟩
 · simp [Value.cells] at hcs
   obtain ⟨rfl, rfl, rfl⟩ := hcs
   obtain ⟨l, rfl, hC, hw⟩ := rows111 (W := W) (a := a) hl hm (fun i hi => by
    obtain ⟨cs', k1, k2⟩ := hel i (by rw [hmm]; simp; omega)
    rw [e111] at k1
    obtain ⟨_, kl, kc⟩ := World.cells?_some k1
    match cs', kl with
    | [x0, x1, x2], _ =>
     obtain ⟨y0, y1, y2, n4, t0, t1, t2⟩ := trod_array3' u111 e5 k2
     obtain ⟨b0, r0, _, v0⟩ := DataW.trod_int u5 t0
     obtain ⟨b1, r1, _, v1⟩ := DataW.trod_int u5 t1
     obtain ⟨b2, r2, _, v2⟩ := DataW.trod_int u5 t2
     simp only [List.cons.injEq, and_true] at r0 r1 r2
     subst r0 r1 r2
     refine ⟨⟨b0, b1, b2⟩, ⟨wf_byte v0, wf_byte v1, wf_byte v2⟩, ?_, ?_, ?_⟩
     · have := kc 0 (by omega)
       rw [Addr.add_add, Nat.add_zero] at this
       exact this
     · have := kc 1 (by omega)
       rw [Addr.add_add] at this
       exact this
     · have := kc 2 (by omega)
       rw [Addr.add_add] at this
       exact this)
   exact ⟨some a, _, l, rfl, hl, hC, hw⟩

end Go.Proofs.Ytkocigldchiifaa.H
