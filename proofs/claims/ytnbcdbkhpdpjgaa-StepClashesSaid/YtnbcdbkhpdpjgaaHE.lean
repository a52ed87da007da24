/- A sheet, given by value, opened: for the rows of chapter 01. -/
import Derived.Test.YtnbcdbkhpdpjgaaQA0
import Derived.Lib.SmallJoins
import Derived.Deep.Matrix
namespace Go.Proofs.Ytnbcdbkhpdpjgaa.H
open Go.RowKit Go.Proofs.YtnbcdbkhpdpjgaaW.PrintWords Go.Proofs.YtnbcdbkhpdpjgaaW.PrintLast Go.Proofs.YtnbcdbkhpdpjgaaW.PrintMore
open Go.ChangeShapes Go.WideShapes Go.Joins
set_option linter.unusedVariables false

theorem rows_C {W : World} {a : Addr} {len cap : Nat} {A : Nat → Option Addr} {L C : Nat → Nat} {Z : Nat → List Int} (hl : len ≤ cap) (hm : cap ≤ maxLen)
    (hr : ∀ r, r < cap → W.cell? (a.add r) = some (.slice (A r) (L r) (C r)) ∧ L r ≤ C r ∧ C r ≤ maxLen ∧ (Z r).length = C r ∧ (∀ n ∈ Z r, (Lit.int .i64 n).wf = true) ∧ (A r = none → C r = 0) ∧
      ∀ a', A r = some a' → 0 ≤ a'.block ∧ ∀ c, c < C r → W.cell? (a'.add c) = some (.int .i64 ((Z r).getD c 0))) :
    ∃ l : List (List Int), len = l.length ∧ Kd.C (Kd.slice 3 (Kd.int .i64)) W (some a) l.length l ∧ ∀ r ∈ l, ∀ n ∈ r, (Lit.int .i64 n).wf = true := by
  have hM : maxLen = 9223372036854775807 := rfl
  refine ⟨(List.range len).map fun r => (Z r).take (L r), by simp, ⟨rfl, by simp; omega, fun _ => ⟨a, rfl, fun j p hj => ?_⟩⟩, fun r hr' n hn => ?_⟩
  · have hjl : j < len := by have := (List.getElem?_eq_some_iff.1 hj).1; simpa using this
    rw [List.getElem?_map, List.getElem?_range hjl] at hj
    obtain rfl := Option.some.inj hj
    obtain ⟨h1, h2, h3, h4, h5, h6, h7⟩ := hr j (by omega)
    have hlen : ((Z j).take (L j)).length = L j := by rw [List.length_take, h4]; omega
    refine ⟨[.slice (A j) (L j) (C j)], rfl, ⟨A j, C j, by rw [hlen], by rw [hlen]; exact h2, ?_⟩, fun i u hu => ?_⟩
    · refine Kd.C_of_reads (d := 0) ⟨rfl, by rw [hlen]; omega, fun h0 => ?_⟩
      rw [hlen] at h0
      cases e : A j with
      | none => have := h6 e; omega
      | some a' =>
        refine ⟨a', rfl, fun i hi => ?_⟩
        rw [hlen] at hi
        rw [(h7 a' e).2 i (by omega)]
        simp [List.getD_eq_getElem?_getD, hi]
    · match i, hu with
      | 0, hu =>
        obtain rfl := Option.some.inj hu
        rw [Nat.add_zero, show (Kd.slice 3 (Kd.int .i64)).sz = 1 from rfl, Nat.mul_one]
        exact h1
  · obtain ⟨j, hj, rfl⟩ := List.mem_map.1 hr'
    exact (hr j (by have := List.mem_range.1 hj; omega)).2.2.2.2.1 n (List.mem_of_mem_take hn)

/-- What a sheet given by value reads as. -/
def IsSheet (W : World) (v : Value) (a : Int) (A : Option Addr) (c : Nat) (l : List (List Int)) : Prop :=
  v = .agg #[.int .i64 a, .slice A l.length c] ∧ l.length ≤ c ∧ Kd.C (Kd.slice 3 (Kd.int .i64)) W A l.length l ∧ (Lit.int .i64 a).wf = true ∧ ∀ r ∈ l, ∀ n ∈ r, (Lit.int .i64 n).wf = true

theorem open_sheet {H : Type} {enc : TypeId × Value → H} {W : World} {r : Reach} {b0 : Nat} {v : Value} {d : DataW H} {p : List MemPlace}
    (hv : Value.okWide Try.prog W r b0 24 v) (h : DataW.Trod enc Try.prog W 0 (fun _ => true) true 24 v d p) : ∃ a A c l, IsSheet W v a A c l := by
  obtain ⟨c0, c1, y0, y1, n, rfl, rfl, rfl, h0, h1⟩ := open_agg2 Try.underlying24 (by kernel_rfl) (by kernel_rfl) hv h
  obtain ⟨a, hc0, hy0, wa⟩ := DataW.trod_int Try.underlying3 h0
  simp only [List.cons.injEq, and_true] at hc0
  subst hc0
  rcases Go.Deep.open_int_rows Try.underlying22 Try.underlying34 Try.underlying3 (by kernel_rfl) (by kernel_rfl) h1 with ⟨hcs, _⟩ | ⟨x, len, cap, A, L, C, Z, hcs, _, hl, hm, _, hrows⟩
  · simp only [List.cons.injEq, and_true] at hcs
    subst hcs
    exact ⟨a, none, 0, [], rfl, Nat.le_refl _, Kd.C_nil _ _, wa, fun r hr => by simp at hr⟩
  · simp only [List.cons.injEq, and_true] at hcs
    subst hcs
    obtain ⟨l, rfl, hC, hw⟩ := rows_C hl hm hrows
    exact ⟨a, some x, cap, l, rfl, hl, hC, wa, hw⟩

end Go.Proofs.Ytnbcdbkhpdpjgaa.H
