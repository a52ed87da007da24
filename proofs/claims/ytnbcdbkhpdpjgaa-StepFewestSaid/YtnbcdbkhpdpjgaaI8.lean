/- An array of five bytes, given by value, opened: for the rows of chapter 01. -/
import Derived.Test.YtnbcdbkhpdpjgaaHY
namespace Go.Proofs.Ytnbcdbkhpdpjgaa.H
open Go.RowKit Go.Proofs.YtnbcdbkhpdpjgaaW.PrintWords Go.Proofs.YtnbcdbkhpdpjgaaW.PrintLast Go.Proofs.YtnbcdbkhpdpjgaaW.PrintMore
open Go.ChangeShapes Go.WideShapes Go.Joins
set_option linter.unusedVariables false

theorem okWide_array {P : Program} {w : World} {r : Reach} {b0 : Nat} {t : TypeId} {v : Value} {n : Nat} {e : TypeId} (ht : P.underlying t = some (.array n e)) (h : Value.okWide P w r b0 t v) : ∃ cs, v = .agg cs ∧ cs.size = P.cellsOf t := by
 simp only [Value.okWide, ht] at h
 obtain ⟨cs, h1, h2, _⟩ := h
 exact ⟨cs, h1, h2⟩
set_option maxRecDepth 100000 in
theorem open_byte_array {H : Type} {enc : TypeId × Value → H} {W : World} {r : Reach} {b0 : Nat} {t n : Nat} {v : Value} {d : DataW H} {p : List MemPlace} (ht : Try.prog.underlying t = some (.array n 5)) (hct : Try.prog.cellsOf t = n)
  (hv : Value.okWide Try.prog W r b0 t v) (h : DataW.Trod enc Try.prog W 0 (fun _ => true) true t v d p) :
  ∃ l : List Int, l.length = n ∧ v = .agg (l.map (Value.int .u8)).toArray ∧ ∀ x ∈ l, isByte x := by
 have e5 : Try.prog.cellsOf 5 = 1 := by kernel_rfl
 have u5 : Try.prog.underlying 5 = some (.int .u8) := by kernel_rfl
 obtain ⟨⟨cs⟩, rfl, hsz⟩ := okWide_array ht hv
 rw [hct] at hsz
 obtain ⟨fuel, hf⟩ := h
 obtain ⟨xs, m, _, _, _, hl, hi⟩ := DataW.trod_array ht hf
 have hcs : cs.length = n := hsz
 have key : ∀ i (hi : i < cs.length), ∃ a, cs[i] = .int .u8 a ∧ isByte a := fun i hlt => by
  have h1 := hi i (by omega)
  have h2 : (Value.cells (Value.agg cs.toArray)).toList = cs := rfl
  rw [h2, e5, Nat.mul_one, List.drop_eq_getElem_cons hlt, List.take_succ_cons, List.take_zero, List.getElem?_eq_getElem (by omega)] at h1
  obtain ⟨a, q, _, wf⟩ := DataW.trod_int u5 h1
  simp only [List.cons.injEq, and_true] at q
  exact ⟨a, q, wf_byte wf⟩
 clear hi hf hv hsz
 refine ⟨(List.range n).map fun i => if hlt : i < cs.length then (key i hlt).choose else 0, by simp, ?_, fun x hx => ?_⟩
 · congr 1
   have : cs = (((List.range n).map fun i => if hlt : i < cs.length then (key i hlt).choose else 0).map (Value.int .u8)) := by
    refine List.ext_getElem (by simp [hcs]) fun i h1 h2 => ?_
    simp only [List.getElem_map, List.getElem_range]
    rw [dif_pos h1]
    exact (key i h1).choose_spec.1
   rw [← this]
 · obtain ⟨i, hi, rfl⟩ := List.mem_map.1 hx
   have hlt : i < cs.length := by have := List.mem_range.1 hi; omega
   simp only [dif_pos hlt]
   exact (key i hlt).choose_spec.2
set_option maxRecDepth 100000 in
theorem open_five {H : Type} {enc : TypeId × Value → H} {W : World} {r : Reach} {b0 : Nat} {v : Value} {d : DataW H} {p : List MemPlace}
  (hv : Value.okWide Try.prog W r b0 67 v) (h : DataW.Trod enc Try.prog W 0 (fun _ => true) true 67 v d p) :
  ∃ m0 m1 m2 m3 m4, v = .agg #[.int .u8 m0, .int .u8 m1, .int .u8 m2, .int .u8 m3, .int .u8 m4] ∧ (isByte m0 ∧ isByte m1 ∧ isByte m2 ∧ isByte m3 ∧ isByte m4) := by
 obtain ⟨l, hl, rfl, hb⟩ := open_byte_array (n := 5) (by kernel_rfl) (by kernel_rfl) hv h
 match l, hl with
 | [m0, m1, m2, m3, m4], _ => exact ⟨m0, m1, m2, m3, m4, rfl, hb _ (by simp), hb _ (by simp), hb _ (by simp), hb _ (by simp), hb _ (by simp)⟩
end Go.Proofs.Ytnbcdbkhpdpjgaa.H
