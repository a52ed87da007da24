/- Own rows: an empty one, a literal one, the first element written; for StepMore. -/
import Derived.Test.YtnbcdbkhpdpjgaaJ0
import Derived.Test.YtnbcdbkhpdpjgaaWN
import Derived.Test.YtnbcdbkhpdpjgaaWNEv
import Derived.Test.YtnbcdbkhpdpjgaaWMore
import Derived.Test.YtnbcdbkhpdpjgaaWFoot
namespace Go.Proofs.Ytnbcdbkhpdpjgaa.H
open Go.RowKit Go.Proofs.YtnbcdbkhpdpjgaaW.PrintWords Go.Proofs.YtnbcdbkhpdpjgaaW.PrintLast Go.Proofs.YtnbcdbkhpdpjgaaW.PrintMore
open Go.Proofs.Ytnbcdbkhpdpjgaa.QA
set_option linter.unusedVariables false
set_option linter.unusedSimpArgs false

theorem N_lits {α : Type} (d : Kd α) (e : Nat) (W : World) (xs : List α) (inner : List Value) (base : Nat) (ok okp : Nat → Prop) (hr : Reps (d.M W base okp) d.sz xs inner) (hok : ∀ k, okp k → ok k ∧ k ≠ W.heap.size) (hfresh : ok W.heap.size) (hb : base ≤ W.heap.size) (hm : xs.length ≤ 9223372036854775807) :
  Kd.N d e (W.alloc (.cells inner.toArray e)) base ok (.slice (some ⟨W.heap.size, 0, none⟩) xs.length xs.length) xs := by
 have hr2 : Reps (d.M (W.alloc (.cells inner.toArray e)) base okp) d.sz xs inner := hr.imp_ (fun _ _ hp => Kd.M_below hp (below_alloc (Below.refl _ _) _))
 refine Kd.R_N ⟨fun k hk => ?_, inner, ?_, hr2.imp_ (fun _ _ hp => d.M_mono (fun k hk => ⟨(hok k hk).1, fun he => (hok k hk).2 ?_⟩) hp)⟩
 · have : W.heap.size = k := by simpa [Value.ownBlock] using hk
   rwa [← this]
 · have h := World.ownsRow_lit (base := base) (e := e) (size := d.sz) W inner.toArray xs.length hb (by simpa [maxLen] using hm) (by simpa using hr.1)
   simpa using h
 · simpa [Value.ownBlock] using he
theorem N_empty {α : Type} (d : Kd α) (e : Nat) (W : World) (base : Nat) (ok : Nat → Prop) (hfresh : ok W.heap.size) (hb : base ≤ W.heap.size) : Kd.N d e (W.alloc (.cells #[] e)) base ok (.slice (some ⟨W.heap.size, 0, none⟩) 0 0) [] := by
 have := N_lits d e W [] [] base ok (fun _ => False) (Reps.none _ _) (fun _ h => h.elim) hfresh hb (by simp)
 exact this
theorem reps_ints (W : World) (base : Nat) (okp : Nat → Prop) : ∀ l : List Int, Reps (dN.M W base okp) dN.sz l (l.map (Value.int .i64))
 | [] => Reps.none _ _
 | x :: r => by
  refine ⟨by simp [show dN.sz = 1 from rfl], fun j p hj => ?_⟩
  show _ = [Value.int .i64 p]
  have hjl := (List.getElem?_eq_some_iff.1 hj).1
  have h2 : ((x :: r).map (Value.int .i64))[j]? = some (Value.int .i64 p) := by rw [List.getElem?_map, hj]; rfl
  have hl : j < ((x :: r).map (Value.int .i64)).length := by simpa using hjl
  rw [show dN.sz = 1 from rfl, Nat.mul_one, List.drop_eq_getElem_cons hl]
  rw [List.getElem?_eq_getElem hl] at h2
  rw [Option.some.inj h2]; rfl
theorem N_ints (W : World) (l : List Int) (base : Nat) (ok : Nat → Prop) (hfresh : ok W.heap.size) (hb : base ≤ W.heap.size) (hm : l.length ≤ 9223372036854775807) : Kd.N dN 3 (W.alloc (.cells (l.map (Value.int .i64)).toArray 3)) base ok (.slice (some ⟨W.heap.size, 0, none⟩) l.length l.length) l :=
 N_lits dN 3 W l _ base ok (fun _ => False) (reps_ints W base _ l) (fun _ h => h.elim) hfresh hb hm
/-- The first element written. -/
theorem N_put0 {W : World} {base g n cap : Nat} {ok okp : Nat → Prop} {xs : List (List Int)} {x' : List Int} {u : Value} (h : Kd.N dL 34 W base ok (.slice (some ⟨g, 0, none⟩) n cap) xs) (hx : Kd.FK dL W okp x' [u]) (hokp : ∀ k, okp k → k ≠ g) (hn : 0 < n) :
  Kd.F dL (W.setCell ⟨g, 0, none⟩ u) (fun k => ok k ∨ okp k) (some ⟨g, 0, none⟩) n (xs.set 0 x') := fun W' hW' => by
 obtain ⟨hl, hc, hC⟩ := Kd.N_reads' h
 have hokg : ok g := h.1 g (by simp [Value.ownBlock])
 obtain ⟨_, _, e, _, hglt, cells, hb⟩ := Kd.N_form h (by omega)
 injection e with e1 _ e2
 injection e1 with e1
 injection e1 with e1
 subst e1
 have hsz : (W.setCell ⟨g, 0, none⟩ u).heap.size = W.heap.size := World.size_setCell _ _ _
 have hset : W'.heap[g]? = some (.cells (cells.setIfInBounds 0 u) 34 (0, 0)) := (hW' g (.inl hokg) (by rw [hsz]; exact hglt)).trans (blk_set hb 0 u)
 have hfar : ∀ k, k ≠ g → (ok k ∨ okp k) → k < W.heap.size → W'.heap[k]? = W.heap[k]? := fun k hk ho hlt => (hW' k ho (by rw [hsz]; exact hlt)).trans (Below.heap_setCell W ⟨g, 0, none⟩ u k hk)
 have hcell : ∀ j v, W.cell? ⟨g, j, none⟩ = some v → j ≠ 0 → W'.cell? ⟨g, j, none⟩ = some v := fun j v hv hj => by
  rw [blk_cell hb] at hv
  rw [blk_cell hset, Array.getElem?_setIfInBounds_ne (by omega)]
  exact hv
 have hz : 0 < cells.size := by
  obtain ⟨c, hcl, _, hcc, _⟩ := Kd.N_elem h [] 0 (by omega) (by omega)
  match c, hcl with
  | [c0], _ =>
   have := hcc 0 c0 rfl
   rw [blk_cell hb] at this
   exact (Array.getElem?_eq_some_iff.1 this).1
 refine ⟨by rw [List.length_set]; omega, by have := hC.2.1; omega, fun _ => ⟨_, rfl, fun j p hj => ?_⟩⟩
 by_cases hj0 : j = 0
 · subst hj0
   obtain rfl : x' = p := by
    rw [List.getElem?_set_self (by omega)] at hj
    exact Option.some.inj hj
   refine ⟨[u], rfl, Kd.FK_now (Kd.FK_step hx fun k hk hlt => hfar k (hokp k hk) (.inr hk) hlt), fun i v hv => ?_⟩
   match i, hv with
   | 0, hv =>
    rw [← Option.some.inj hv, add_plain, blk_cell hset]
    simp [hz]
 · rw [List.getElem?_set_ne (by omega)] at hj
   have hjl := (List.getElem?_eq_some_iff.1 hj).1
   obtain ⟨c, hcl, hK, hcc, _⟩ := Kd.N_elem h [] (j : Int) (by omega) (by omega)
   rw [Int.toNat_natCast] at hK hcc
   rw [List.getD_eq_getElem?_getD, hj] at hK
   refine ⟨c, hcl, Kd.FK_now (Kd.FK_step hK fun k hk hlt => hfar k hk.2 (.inl hk.1) hlt), fun i v hv => ?_⟩
   match c, hcl, i, hv with
   | [c0], _, 0, hv =>
    have := hcc 0 v hv
    rw [add_plain]
    exact hcell _ _ this (by rw [show dL.sz = 1 from rfl]; omega)
   | [c0], _, i + 1, hv => simp at hv
theorem wf_word {a : Int} (h : (Lit.int .u16 a).wf = true) : 0 ≤ a ∧ a ≤ 65535 := by
 simp [Lit.wf, IntKind.min, IntKind.max, IntKind.signed, IntKind.bits] at h
 omega
end Go.Proofs.Ytnbcdbkhpdpjgaa.H
