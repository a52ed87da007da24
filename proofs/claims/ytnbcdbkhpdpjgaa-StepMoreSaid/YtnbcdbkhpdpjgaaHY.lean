/- A master, given by value, opened; for the rows of chapter 01. -/
import Derived.Test.YtnbcdbkhpdpjgaaHT
import Derived.Lib.SmallJoins
import Derived.Laws.IdiomArrays
import Derived.OpenShut
namespace Go.Proofs.Ytnbcdbkhpdpjgaa.H
open Go.RowKit Go.Proofs.YtnbcdbkhpdpjgaaW.PrintWords Go.Proofs.YtnbcdbkhpdpjgaaW.PrintLast Go.Proofs.YtnbcdbkhpdpjgaaW.PrintMore
open Go.ChangeShapes Go.WideShapes Go.Joins Go.Proofs.Ytnbcdbkhpdpjgaa.QA
set_option linter.unusedVariables false
set_option linter.unusedSimpArgs false

theorem wf_byte {a : Int} (h : (Lit.int .u8 a).wf = true) : isByte a := by
 simp [Lit.wf, IntKind.min, IntKind.max, IntKind.signed, IntKind.bits] at h
 unfold isByte
 omega
theorem array6 {α : Type} {cs : Array α} (h : cs.size = 6) : ∃ c0 c1 c2 c3 c4 c5, cs = #[c0, c1, c2, c3, c4, c5] := by
 obtain ⟨l⟩ := cs
 match l, h with
 | [c0, c1, c2, c3, c4, c5], _ => exact ⟨c0, c1, c2, c3, c4, c5, rfl⟩
theorem rows92 {W : World} {a : Addr} {len cap : Nat} (hl : len ≤ cap) (hm : cap ≤ maxLen)
  (hq : ∀ i, i < len → ∃ x : S92, (isByte x.f0 ∧ isByte x.f1) ∧ W.cell? (a.add (i * 2)) = some (.int .u8 x.f0) ∧ W.cell? (a.add (i * 2 + 1)) = some (.int .u8 x.f1)) :
  ∃ l : List S92, len = l.length ∧ Kd.C k92 W (some a) l.length l ∧ ∀ x ∈ l, isByte x.f0 ∧ isByte x.f1 := by
 have hM : maxLen = 9223372036854775807 := rfl
 obtain ⟨F, hF⟩ : ∃ F : Nat → S92, ∀ i, i < len → (isByte (F i).f0 ∧ isByte (F i).f1) ∧ W.cell? (a.add (i * 2)) = some (.int .u8 (F i).f0) ∧ W.cell? (a.add (i * 2 + 1)) = some (.int .u8 (F i).f1) :=
  ⟨fun i => if h : i < len then (hq i h).choose else z92, fun i h => by dsimp only; rw [dif_pos h]; exact (hq i h).choose_spec⟩
 refine ⟨(List.range len).map F, by simp, ⟨rfl, by simp; omega, fun _ => ⟨a, rfl, fun j p hj => ?_⟩⟩, fun x hx => ?_⟩
 · have hjl : j < len := by have := (List.getElem?_eq_some_iff.1 hj).1; simpa using this
   rw [List.getElem?_map, List.getElem?_range hjl] at hj
   obtain rfl := Option.some.inj hj
   obtain ⟨_, h1, h2⟩ := hF j hjl
   refine ⟨_, rfl, k92_mk _ _, fun i u hu => ?_⟩
   match i, hu with
   | 0, hu => rw [← Option.some.inj hu]; exact h1
   | 1, hu => rw [← Option.some.inj hu]; exact h2
 · obtain ⟨j, hj, rfl⟩ := List.mem_map.1 hx
   exact (hF j (by have := List.mem_range.1 hj; omega)).1
theorem trod_array2 {H : Type} {enc : TypeId × Value → H} {P : Program} {w : World} {base : Nat} {spare : Nat → Bool} {held : Bool} {t e : TypeId} {fuel : Nat} {c0 c1 : Value} {x : DataW H × List MemPlace} (ht : P.underlying t = some (.array 2 e)) (hce : P.cellsOf e = 1)
  (h : DataW.trod enc P w base spare held fuel t [c0, c1] = some x) : ∃ y0 y1 n, DataW.trod enc P w base spare held n e [c0] = some y0 ∧ DataW.trod enc P w base spare held n e [c1] = some y1 := by
 obtain ⟨xs, m, _, _, _, hl, hi⟩ := DataW.trod_array ht h
 match xs, hl with
 | [y0, y1], _ => exact ⟨y0, y1, m, by simpa [hce] using hi 0 (by omega), by simpa [hce] using hi 1 (by omega)⟩
theorem open_master {H : Type} {enc : TypeId × Value → H} {W : World} {r : Reach} {b0 : Nat} {v : Value} {d : DataW H} {p : List MemPlace}
  (hv : Value.okWide Try.prog W r b0 59 v) (h : DataW.Trod enc Try.prog W 0 (fun _ => true) true 59 v d p) :
  ∃ a0 a1 a2 a3 a4 A c l, v = .agg #[.int .u8 a0, .int .u8 a1, .int .u8 a2, .int .u8 a3, .int .u8 a4, .slice A l.length c] ∧ l.length ≤ c ∧ Kd.C k92 W A l.length l ∧ mdOk a0 a1 a2 a3 a4 l := by
 have e5 : Try.prog.cellsOf 5 = 1 := by kernel_rfl
 have e56 : Try.prog.cellsOf 56 = 3 := by kernel_rfl
 have e57 : Try.prog.cellsOf 57 = 1 := by kernel_rfl
 have e92 : Try.prog.cellsOf 92 = 2 := by kernel_rfl
 have e59 : Try.prog.cellsOf 59 = 6 := by kernel_rfl
 have u56 : Try.prog.underlying 56 = some (.array 3 5) := by kernel_rfl
 have u57 : Try.prog.underlying 57 = some (.slice 92) := by kernel_rfl
 have u92 : Try.prog.underlying 92 = some (.array 2 5) := by kernel_rfl
 have u5 : Try.prog.underlying 5 = some (.int .u8) := by kernel_rfl
 obtain ⟨cs, rfl, hsz⟩ := okWide_struct Try.underlying59 hv
 obtain ⟨c0, c1, c2, c3, c4, c5, rfl⟩ := array6 (hsz.trans e59)
 obtain ⟨fuel, hf⟩ := h
 obtain ⟨y0, y1, y2, y3, n, _, _, h0, h1, h2, h3⟩ := trod_struct4 Try.underlying59 hf
 have h0' : DataW.trod enc Try.prog W 0 (fun _ => true) true n 5 [c0] = some y0 := by simpa [Value.cells, e5] using h0
 have h1' : DataW.trod enc Try.prog W 0 (fun _ => true) true n 5 [c1] = some y1 := by simpa [Value.cells, e5] using h1
 have h2' : DataW.trod enc Try.prog W 0 (fun _ => true) true n 56 [c2, c3, c4] = some y2 := by simpa [Value.cells, e56] using h2
 have h3' : DataW.trod enc Try.prog W 0 (fun _ => true) true n 57 [c5] = some y3 := by simpa [Value.cells, e57] using h3
 obtain ⟨z2, z3, z4, n2, _, g2, g3, g4⟩ := trod_array3 u56 e5 h2'
 obtain ⟨a0, q0, _, w0⟩ := DataW.trod_int u5 h0'
 obtain ⟨a1, q1, _, w1⟩ := DataW.trod_int u5 h1'
 obtain ⟨a2, q2, _, w2⟩ := DataW.trod_int u5 g2
 obtain ⟨a3, q3, _, w3⟩ := DataW.trod_int u5 g3
 obtain ⟨a4, q4, _, w4⟩ := DataW.trod_int u5 g4
 simp only [List.cons.injEq, and_true] at q0 q1 q2 q3 q4
 subst q0 q1 q2 q3 q4
 have hb := And.intro (wf_byte w0) (And.intro (wf_byte w1) (And.intro (wf_byte w2) (And.intro (wf_byte w3) (wf_byte w4))))
 rcases Go.Deep.open_slice u57 h3' with ⟨hcs, _⟩ | ⟨a, len, cap, m, n3, D, Pl, hcs, _, hl, hm, hmm, _, hel⟩
 · simp only [List.cons.injEq, and_true] at hcs
   subst hcs
   exact ⟨a0, a1, a2, a3, a4, none, 0, [], rfl, Nat.le_refl _, Kd.C_nil _ _, hb, fun x hx => by simp at hx⟩
 · simp only [List.cons.injEq, and_true] at hcs
   subst hcs
   obtain ⟨l, rfl, hC, hw⟩ := rows92 (W := W) (a := a) hl hm (fun i hi => by
    obtain ⟨cs', k1, k2⟩ := hel i (by rw [hmm]; simp; omega)
    rw [e92] at k1
    obtain ⟨_, kl, kc⟩ := World.cells?_some k1
    match cs', kl with
    | [x0, x1], _ =>
     obtain ⟨y0, y1, n4, t0, t1⟩ := trod_array2 u92 e5 k2
     obtain ⟨b0, r0, _, v0⟩ := DataW.trod_int u5 t0
     obtain ⟨b1, r1, _, v1⟩ := DataW.trod_int u5 t1
     simp only [List.cons.injEq, and_true] at r0 r1
     subst r0 r1
     refine ⟨⟨b0, b1⟩, ⟨wf_byte v0, wf_byte v1⟩, ?_, ?_⟩
     · have := kc 0 (by omega)
       rw [Addr.add_add, Nat.add_zero] at this
       simpa using this
     · have := kc 1 (by omega)
       rw [Addr.add_add] at this
       simpa using this)
   exact ⟨a0, a1, a2, a3, a4, some a, cap, l, rfl, hl, hC, hb, hw⟩
end Go.Proofs.Ytnbcdbkhpdpjgaa.H
