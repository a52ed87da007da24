/- Calls of function values, and slices.ContainsFunc over whatever predicate. Printed by gen_contains.py of this session. -/
import Derived.Test.YtkocigldchiifaaQA0
import Derived.Shelf.Abstract
namespace Go.Proofs.Ytkocigldchiifaa.H
open Go.RowKit Go.Proofs.YtkocigldchiifaaW.PrintWords Go.Proofs.YtkocigldchiifaaW.PrintLast Go.Proofs.YtkocigldchiifaaW.PrintMore
open Go.Shelf Go.Proofs.Ytkocigldchiifaa.QA
set_option linter.unusedVariables false
set_option linter.unusedSimpArgs false

/-- A function value that answers a Bool: at each x of D, in each world in which all that lay in w lies unturned, it hands back p x, and turns nothing that lay. -/
def Pred {α : Type} (g : Nat) (lb : Array Value) (enc : α → Value) (D : α → Prop) (p : α → Bool) (w : World) : Prop :=
  ∀ (W : World) (x : α), D x → Below w.heap.size w W → Calls Try.prog g (#[enc x] ++ lb) W fun e w' => e = .returned (.bool (p x)) ∧ Below W.heap.size W w'

theorem any_hit {α : Type} (p : α → Bool) (l : List α) (k : Nat) (z : α) (h : k < l.length) (hk : p (l.getD k z) = true) : decide (0 ≤ (k : Int)) = l.any p := by
  rw [List.any_eq_true.2 ⟨l.getD k z, by rw [List.getD_eq_getElem?_getD, List.getElem?_eq_getElem h]; exact List.getElem_mem h, hk⟩]
  exact decide_eq_true (by omega)
theorem any_miss {α : Type} (p : α → Bool) (l : List α) (z : α) (h : ∀ j, j < l.length → p (l.getD j z) = false) : decide (0 ≤ (-1 : Int)) = l.any p := by
  rw [show l.any p = false from List.any_eq_false.2 (fun x hx => by
    obtain ⟨j, hj, rfl⟩ := List.getElem_of_mem hx
    have := h j hj
    rw [List.getD_eq_getElem?_getD, List.getElem?_eq_getElem hj] at this
    simpa using this)]
  rfl

set_option maxHeartbeats 2000000 in
theorem conEvents_index (g : Nat) (lb : Array Value) (p : S59 → Bool) (eg : ∀ args w, (callFunc g args).run Try.prog w = .ok (.enter g args) w) (A : Option Addr) (c : Nat) (l : List (S59)) (w : World)
    (hp : Pred g lb (fun x : S59 => Value.agg #[.int .i64 x.f0, .int .i64 x.f1, .int .i64 x.f2]) (· ∈ l) p w) (hr : Kd.C k59 w A l.length l) (hc : l.length ≤ c) :
    Calls Try.prog 81 #[.slice A l.length c, .func (.func g) #[] lb] w fun e w' => ∃ n : Int, e = .returned (.int .i64 n) ∧ Aside0 (decide (0 ≤ n) = l.any p) ∧ Below w.heap.size w w' := by
  have hm := Kd.C_max hr
  have HR := Aside0.mk hr
  clear hr
  go_enter Try.func81, Try.ntmps81
  go_wp2
  go_loopg [5, 8] l.length (fun gg _ s8 wr => ∃ kk : Nat, kk ≤ l.length ∧ l.length - kk ≤ gg ∧ s8 = .int .i64 kk ∧ Aside0 (Below w.heap.size w wr) ∧ Aside0 (∀ j, j < kk → p (l.getD j z59) = false))
  case atStart => exact ⟨0, Nat.zero_le _, by omega, rfl, ⟨Below.refl _ w⟩, ⟨fun j hj => absurd hj (Nat.not_lt_zero _)⟩⟩
  case round =>
    obtain ⟨kk, hkk, hg, rfl, BW, HA⟩ := hrel
    by_cases hlt : kk < l.length
    · have hltz : (kk : Int) < (l.length : Int) := by omega
      obtain ⟨ad, e1, hx0, hx1, hx2⟩ := at_T59 HR.out kk (by omega) hltz
      cases e1
      rw [Int.toNat_natCast] at hx0
      replace hx0 := (BW.out.cell (World.block_lt_of_cell? w _ hx0)).trans hx0
      rw [Int.toNat_natCast] at hx1
      replace hx1 := (BW.out.cell (World.block_lt_of_cell? w _ hx1)).trans hx1
      rw [Int.toNat_natCast] at hx2
      replace hx2 := (BW.out.cell (World.block_lt_of_cell? w _ hx2)).trans hx2
      have hcall := hp wr (rd_T59 l kk) (by unfold rd_T59; rw [Int.toNat_natCast, List.getD_eq_getElem?_getD, List.getElem?_eq_getElem hlt]; exact List.getElem_mem hlt) BW.out
      clear hp
      generalize hy : rd_T59 l kk = y at hx0 hx1 hx2 hcall
      have hy' : p (l.getD kk z59) = p y := by rw [← hy]; rfl
      clear hy
      have B := Aside0.mk hy'
      clear hy'
      cases hq : p y with
      | true =>
        rw [hq] at hcall
        go_wp2_with (go_at_fn g; refine hcall.mono ?_; rintro e w' ⟨rfl, hb'⟩)
        go_ret
        exact ⟨_, rfl, ⟨any_hit p l kk z59 hlt (B.out.trans hq)⟩, below_then BW.out BW.out.size hb'⟩
      | false =>
        rw [hq] at hcall
        go_wp2_with (go_at_fn g; refine hcall.mono ?_; rintro e w' ⟨rfl, hb'⟩)
        go_roundg (l.length - (kk + 1))
        case measure => omega
        case rel =>
          refine ⟨kk + 1, by omega, by omega, by go_num, ⟨below_then BW.out BW.out.size hb'⟩, ⟨fun j hj => ?_⟩⟩
          by_cases e : j = kk
          · subst e
            rw [B.out]; exact hq
          · exact HA.out j (by omega)
    · have hltz : ¬ (kk : Int) < (l.length : Int) := by omega
      have : kk = l.length := by omega
      subst this
      go_wp2
      go_ret
      exact ⟨_, rfl, ⟨any_miss p l z59 HA.out⟩, BW.out⟩

/-- slices.ContainsFunc. -/
theorem conEvents (g : Nat) (lb : Array Value) (p : S59 → Bool) (eg : ∀ args w, (callFunc g args).run Try.prog w = .ok (.enter g args) w) (A : Option Addr) (c : Nat) (l : List (S59)) (w : World)
    (hp : Pred g lb (fun x : S59 => Value.agg #[.int .i64 x.f0, .int .i64 x.f1, .int .i64 x.f2]) (· ∈ l) p w) (hr : Kd.C k59 w A l.length l) (hc : l.length ≤ c) :
    Calls Try.prog 73 #[.slice A l.length c, .func (.func g) #[] lb] w fun e w' => e = .returned (.bool (l.any p)) ∧ Below w.heap.size w w' := by
  go_enter Try.func73, Try.ntmps73
  go_wp2_with (go_at_call 81; refine (conEvents_index g lb p eg A c l _ hp hr hc).mono ?_; rintro e w' ⟨n, rfl, HN, hb⟩)
  go_ret
  exact ⟨by rw [← HN.out]; rfl, hb⟩

end Go.Proofs.Ytkocigldchiifaa.H
