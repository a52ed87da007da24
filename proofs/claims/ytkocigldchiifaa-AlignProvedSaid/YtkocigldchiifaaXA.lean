/- Texts H0, H1, HR, HD, H2, H3, H4, M0, H5 of this chapter, one behind the other. -/
import Derived.DeepKeys4
import Derived.LoopIn
import Derived.LoopNIn
import Derived.Maps.AppendAt
import Derived.Maps.OwnIn
import Derived.Maps.Views
import Derived.OwnWalkIn
import Derived.ProofKit
import Derived.RangeFuncBound
import Derived.RangeFuncBox
import Derived.RangeFuncCalls
import Derived.RangeFuncLeaves
import Derived.RangeFuncNested
import Derived.RangeFuncWrites
import Derived.Shelf.Abstract
import Derived.Shelf.RegionOpen
import Derived.TacticsInMore
import Derived.WalkKit
import Derived.Test.YtkocigldchiifaaQA0
import Derived.Test.YtkocigldchiifaaQA3

/- Calls of function values, and slices.ContainsFunc over whatever predicate. Printed by gen_contains.py of this session. -/
namespace Go.Proofs.Ytkocigldchiifaa.H
open Go.RowKit Go.Proofs.YtkocigldchiifaaW.PrintWords Go.Proofs.YtkocigldchiifaaW.PrintLast Go.Proofs.YtkocigldchiifaaW.PrintMore
open Go.Shelf Go.Proofs.Ytkocigldchiifaa.QA
set_option linter.unusedVariables false
set_option linter.unusedSimpArgs false

/-- A function value that answers a Bool: at each x of D, in each world in which all that lay in w lies unturned, it hands back p x, and turns nothing that lay. -/
def Pred {α : Type} (g : Nat) (lb : Array Value) (enc : α → Value) (D : α → Prop) (p : α → Bool) (w : World) : Prop :=
  ∀ (W : World) (x : α), D x → Below w.heap.size w W → Calls Try.prog g (#[enc x] ++ lb) W fun e w' => e = .returned (.bool (p x)) ∧ Below W.heap.size W w'

theorem any_hit {α : Type} (p : α → Bool) (l : List α) (k : Nat) (z : α) (h : k < l.length) (hk : p (l.getD k z) = true) : decide (0 ≤ (k : Int)) = l.any p := by
  rw [List.any_eq_true.2 ⟨l.getD k z, by rw [List.getD_eq_getElem?_getD, List.getElem?_eq_getElem h]; exact List.getElem_mem h, hk⟩]
  exact decide_eq_true (by omega)
theorem any_miss {α : Type} (p : α → Bool) (l : List α) (z : α) (h : ∀ j, j < l.length → p (l.getD j z) = false) : decide (0 ≤ (-1 : Int)) = l.any p := by
  rw [show l.any p = false from List.any_eq_false.2 (fun x hx => by
    obtain ⟨j, hj, rfl⟩ := List.getElem_of_mem hx
    have := h j hj
    rw [List.getD_eq_getElem?_getD, List.getElem?_eq_getElem hj] at this
    simpa using this)]
  rfl

set_option maxHeartbeats 2000000 in
theorem conEvents_index (g : Nat) (lb : Array Value) (p : S59 → Bool) (eg : ∀ args w, (callFunc g args).run Try.prog w = .ok (.enter g args) w) (A : Option Addr) (c : Nat) (l : List (S59)) (w : World)
    (hp : Pred g lb (fun x : S59 => Value.agg #[.int .i64 x.f0, .int .i64 x.f1, .int .i64 x.f2]) (· ∈ l) p w) (hr : Kd.C k59 w A l.length l) (hc : l.length ≤ c) :
    Calls Try.prog 81 #[.slice A l.length c, .func (.func g) #[] lb] w fun e w' => ∃ n : Int, e = .returned (.int .i64 n) ∧ Aside0 (decide (0 ≤ n) = l.any p) ∧ Below w.heap.size w w' := by
  have hm := Kd.C_max hr
  have HR := Aside0.mk hr
  clear hr
  go_enter Try.func81, Try.ntmps81
  go_wp2
  go_loopg [5, 8] l.length (fun gg _ s8 wr => ∃ kk : Nat, kk ≤ l.length ∧ l.length - kk ≤ gg ∧ s8 = .int .i64 kk ∧ Aside0 (Below w.heap.size w wr) ∧ Aside0 (∀ j, j < kk → p (l.getD j z59) = false))
  case atStart => exact ⟨0, Nat.zero_le _, by omega, rfl, ⟨Below.refl _ w⟩, ⟨fun j hj => absurd hj (Nat.not_lt_zero _)⟩⟩
  case round =>
    obtain ⟨kk, hkk, hg, rfl, BW, HA⟩ := hrel
    by_cases hlt : kk < l.length
    · have hltz : (kk : Int) < (l.length : Int) := by omega
      obtain ⟨ad, e1, hx0, hx1, hx2⟩ := at_T59 HR.out kk (by omega) hltz
      cases e1
      rw [Int.toNat_natCast] at hx0
      replace hx0 := (BW.out.cell (World.block_lt_of_cell? w _ hx0)).trans hx0
      rw [Int.toNat_natCast] at hx1
      replace hx1 := (BW.out.cell (World.block_lt_of_cell? w _ hx1)).trans hx1
      rw [Int.toNat_natCast] at hx2
      replace hx2 := (BW.out.cell (World.block_lt_of_cell? w _ hx2)).trans hx2
      have hcall := hp wr (rd_T59 l kk) (by unfold rd_T59; rw [Int.toNat_natCast, List.getD_eq_getElem?_getD, List.getElem?_eq_getElem hlt]; exact List.getElem_mem hlt) BW.out
      clear hp
      generalize hy : rd_T59 l kk = y at hx0 hx1 hx2 hcall
      have hy' : p (l.getD kk z59) = p y := by rw [← hy]; rfl
      clear hy
      have B := Aside0.mk hy'
      clear hy'
      cases hq : p y with
      | true =>
        rw [hq] at hcall
        go_wp2_with (go_at_fn g; refine hcall.mono ?_; rintro e w' ⟨rfl, hb'⟩)
        go_ret
        exact ⟨_, rfl, ⟨any_hit p l kk z59 hlt (B.out.trans hq)⟩, below_then BW.out BW.out.size hb'⟩
      | false =>
        rw [hq] at hcall
        go_wp2_with (go_at_fn g; refine hcall.mono ?_; rintro e w' ⟨rfl, hb'⟩)
        go_roundg (l.length - (kk + 1))
        case measure => omega
        case rel =>
          refine ⟨kk + 1, by omega, by omega, by go_num, ⟨below_then BW.out BW.out.size hb'⟩, ⟨fun j hj => ?_⟩⟩
          by_cases e : j = kk
          · subst e
            rw [B.out]; exact hq
          · exact HA.out j (by omega)
    · have hltz : ¬ (kk : Int) < (l.length : Int) := by omega
      have : kk = l.length := by omega
      subst this
      go_wp2
      go_ret
      exact ⟨_, rfl, ⟨any_miss p l z59 HA.out⟩, BW.out⟩

/-- slices.ContainsFunc. -/
theorem conEvents (g : Nat) (lb : Array Value) (p : S59 → Bool) (eg : ∀ args w, (callFunc g args).run Try.prog w = .ok (.enter g args) w) (A : Option Addr) (c : Nat) (l : List (S59)) (w : World)
    (hp : Pred g lb (fun x : S59 => Value.agg #[.int .i64 x.f0, .int .i64 x.f1, .int .i64 x.f2]) (· ∈ l) p w) (hr : Kd.C k59 w A l.length l) (hc : l.length ≤ c) :
    Calls Try.prog 73 #[.slice A l.length c, .func (.func g) #[] lb] w fun e w' => e = .returned (.bool (l.any p)) ∧ Below w.heap.size w w' := by
  go_enter Try.func73, Try.ntmps73
  go_wp2_with (go_at_call 81; refine (conEvents_index g lb p eg A c l _ hp hr hc).mono ?_; rintro e w' ⟨n, rfl, HN, hb⟩)
  go_ret
  exact ⟨by rw [← HN.out]; rfl, hb⟩

end Go.Proofs.Ytkocigldchiifaa.H

/- align.Check: the error of two rolls. -/
namespace Go.Proofs.Ytkocigldchiifaa.H
open Go.RowKit Go.Proofs.YtkocigldchiifaaW.PrintWords Go.Proofs.YtkocigldchiifaaW.PrintLast Go.Proofs.YtkocigldchiifaaW.PrintMore
open Go.Shelf Go.Proofs.Ytkocigldchiifaa.QA
set_option linter.unusedVariables false
set_option linter.unusedSimpArgs false

def isIn (a x b : Int) : Bool := decide (a ≤ x) && decide (x ≤ b)
theorem between_f (a x b : Int) : align_between.f a x b = some (isIn a x b) := by
  unfold align_between.f isIn
  by_cases h : a ≤ x <;> simp [h]
theorem bt_calls (a x b : Int) (w : World) : Calls Try.prog 69 #[.int .i64 a, .int .i64 x, .int .i64 b] w fun e w' => e = .returned (.bool (isIn a x b)) ∧ ∃ n, w' = w.drewN n :=
  (align_between.calls a x b _ w (between_f a x b)).mono fun _ _ h => ⟨h.1, h.2.out⟩
def goodB (x : S59) : Bool := isIn 1 x.f0 88 && (isIn 0 x.f1 1000 && isIn 0 x.f2 1000)

set_option maxRecDepth 100000 in
/-- (align.Event).good -/
theorem good_calls (x : S59) (w : World) : Calls Try.prog 75 #[.agg #[.int .i64 x.f0, .int .i64 x.f1, .int .i64 x.f2]] w fun e w' => e = .returned (.bool (goodB x)) ∧ Below w.heap.size w w' := by
  have hu59 := Try.underlying59
  obtain ⟨r, hr⟩ : ∃ r, r = goodB x := ⟨_, rfl⟩
  rw [← hr]
  unfold goodB at hr
  cases h0 : isIn 1 x.f0 88 <;> cases h1 : isIn 0 x.f1 1000 <;> cases h2 : isIn 0 x.f2 1000
  all_goals
    rw [h0, h1, h2] at hr
    subst hr
    go_enter Try.func75, Try.ntmps75
    go_wp2_with (go_at_call 69; refine (bt_calls _ _ _ _).mono ?_; rintro e w' ⟨rfl, ⟨nd, rfl⟩⟩)
    go_ret
    exact ⟨rfl, by repeat (first | exact Below.refl _ _ | apply pw_below_drewN | apply below_alloc)⟩
/-- (align.Roll).check$1 -/
theorem check1 (l : List S59) (w : World) : Pred 74 #[] (fun x : S59 => Value.agg #[.int .i64 x.f0, .int .i64 x.f1, .int .i64 x.f2]) (· ∈ l) (fun x => !goodB x) w := by
  intro W x _ _
  have hu59 := Try.underlying59
  go_enter Try.func74, Try.ntmps74
  go_wp2_with (go_at_call 75; refine (good_calls x _).mono ?_; rintro e w' ⟨rfl, hb⟩)
  go_ret
  exact ⟨rfl, below_then (below_alloc (Below.refl _ _) _) (by simp) hb⟩
/-- The error of a roll. -/
def chk (l : List S59) : Int := if l.length = 0 then 4 else if 30 < l.length then 5 else if l.any (fun x => !goodB x) = true then 3 else 0

set_option maxRecDepth 100000 in
/-- (align.Roll).check -/
theorem roll_check (A : Option Addr) (c : Nat) (l : List S59) (w : World) (hr : Kd.C k59 w A l.length l) (hc : l.length ≤ c) :
    Calls Try.prog 53 #[.slice A l.length c] w fun e w' => e = .returned (.int .i64 (chk l)) ∧ Below w.heap.size w w' := by
  have hm := Kd.C_max hr
  have HR := Aside0.mk hr
  obtain ⟨r, hr'⟩ : ∃ r, r = chk l := ⟨_, rfl⟩
  rw [← hr']
  have HE := Aside0.mk hr'
  clear hr hr'
  by_cases h0 : l.length = 0
  · have h0b : ((l.length : Int) == 0) = true := by simp [h0]
    have e : r = 4 := by rw [HE.out]; unfold chk; rw [if_pos h0]
    subst e
    clear h0
    go_enter Try.func53, Try.ntmps53
    go_wp2
    go_ret
    exact ⟨rfl, Below.refl _ _⟩
  · have h0b : ((l.length : Int) == 0) = false := by simp only [beq_eq_false_iff_ne, ne_eq]; omega
    by_cases h6 : 30 < l.length
    · have h6b : decide (30 < (l.length : Int)) = true := decide_eq_true (by omega)
      have e : r = 5 := by rw [HE.out]; unfold chk; rw [if_neg h0, if_pos h6]
      subst e
      clear h0 h6
      go_enter Try.func53, Try.ntmps53
      go_wp2
      go_ret
      exact ⟨rfl, Below.refl _ _⟩
    · have h6b : decide (30 < (l.length : Int)) = false := decide_eq_false (by omega)
      have hcall := fun W (hb : Below w.heap.size w W) => conEvents 74 #[] (fun x => !goodB x) (enters_of Try.func74 (by kernel_rfl) rfl) A c l W (check1 l W) (Kd.C_below HR.out hb) hc
      have e : r = if l.any (fun x => !goodB x) = true then 3 else 0 := by rw [HE.out]; unfold chk; rw [if_neg h0, if_neg h6]
      clear h0 h6
      cases hq : l.any (fun x => !goodB x) with
      | true =>
        rw [hq] at hcall e
        have HC := Aside0.mk hcall
        clear hcall hq
        subst e
        go_enter Try.func53, Try.ntmps53
        go_wp2_with (go_at_call 73; refine (HC.out _ (Below.refl _ _)).mono ?_; rintro e w' ⟨rfl, hb⟩)
        go_ret
        exact ⟨rfl, hb⟩
      | false =>
        rw [hq] at hcall e
        have HC := Aside0.mk hcall
        clear hcall hq
        subst e
        go_enter Try.func53, Try.ntmps53
        go_wp2_with (go_at_call 73; refine (HC.out _ (Below.refl _ _)).mono ?_; rintro e w' ⟨rfl, hb⟩)
        go_ret
        exact ⟨rfl, hb⟩

def align_Check.f (l0 l1 : List S59) : Option Int := some (if chk l0 = 0 then chk l1 else chk l0)
theorem two_cells {W : World} {g t : Nat} {v0 v1 : Value} (h : W.heap[g]? = some (.cells #[v0, v1] t (0, 0))) : W.cell? ⟨g, 0, none⟩ = some v0 ∧ W.cell? ⟨g, 1, none⟩ = some v1 := ⟨(blk_cell h 0).trans rfl, (blk_cell h 1).trans rfl⟩
set_option maxHeartbeats 4000000 in
set_option maxRecDepth 100000 in
theorem align_Check.calls (A0 : Option Addr) (c0 : Nat) (l0 : List S59) (A1 : Option Addr) (c1 : Nat) (l1 : List S59) (r : Int) (w : World) (hr0 : Kd.C k59 w A0 l0.length l0) (hc0 : l0.length ≤ c0) (hr1 : Kd.C k59 w A1 l1.length l1) (hc1 : l1.length ≤ c1) (h : align_Check.f l0 l1 = some r) :
    Calls Try.prog 24 #[.slice A0 l0.length c0, .slice A1 l1.length c1] w fun e w' => e = .returned (.int .i64 r) ∧ Below w.heap.size w w' := by
  unfold align_Check.f at h
  have HE := Aside0.mk (Option.some.inj h)
  have HR0 := Aside0.mk hr0
  have HR1 := Aside0.mk hr1
  have HC := Aside0.mk (And.intro hc0 hc1)
  clear h hr0 hr1 hc0 hc1
  have BL := Aside0.mk (blk_new w (.cells #[.slice A0 l0.length c0, .slice A1 l1.length c1] 23))
  go_enter Try.func24, Try.ntmps24
  go_wp2
  go_loopg [13] 2 (fun gg s13 wr => ∃ k : Nat, s13 = .int .i64 k ∧ Aside0 (k ≤ 2 ∧ 2 - k ≤ gg) ∧ Aside0 ((1 ≤ k → chk l0 = 0) ∧ (2 ≤ k → chk l1 = 0)) ∧ Aside0 (Below (w.alloc (.cells #[.slice A0 l0.length c0, .slice A1 l1.length c1] 23)).heap.size (w.alloc (.cells #[.slice A0 l0.length c0, .slice A1 l1.length c1] 23)) wr))
  case atStart => exact ⟨0, rfl, ⟨by omega, by omega⟩, ⟨fun h => by omega, fun h => by omega⟩, ⟨Below.refl _ _⟩⟩
  case round =>
    obtain ⟨k, rfl, HK, HZ, HB⟩ := hrel
    have HBW := Aside0.mk (below_then (below_alloc (Below.refl w.heap.size w) _) (by simp) HB.out)
    obtain ⟨y0, y1⟩ := two_cells (blk_below BL.out HB.out)
    by_cases k0 : k = 0
    · subst k0
      by_cases hz : chk l0 = 0
      · have z1 : (chk l0 != 0) = false := by simp [hz]
        have HZ0 := Aside0.mk hz
        clear hz
        go_wp2_with (go_at_call 53; refine (roll_check A0 c0 l0 _ (Kd.C_below HR0.out HBW.out) HC.out.1).mono ?_; rintro e w' ⟨rfl, hb⟩; have HN := Aside0.mk hb; clear hb)
        go_roundg 1
        case measure => have := HK.out; omega
        case rel => exact ⟨1, by first | rfl | simp, ⟨by omega, by omega⟩, ⟨fun _ => HZ0.out, fun h => by omega⟩, ⟨below_then HB.out HB.out.size HN.out⟩⟩
      · have z1 : (chk l0 != 0) = true := by simp [hz]
        have er : r = chk l0 := by rw [← HE.out, if_neg hz]
        subst er
        clear hz HE
        go_wp2_with (go_at_call 53; refine (roll_check A0 c0 l0 _ (Kd.C_below HR0.out HBW.out) HC.out.1).mono ?_; rintro e w' ⟨rfl, hb⟩; have HN := Aside0.mk hb; clear hb)
        go_ret
        exact ⟨rfl, below_then HBW.out HBW.out.size HN.out⟩
    · by_cases k1 : k = 1
      · subst k1
        have e0 := HZ.out.1 (by omega)
        have er : r = chk l1 := by rw [← HE.out, if_pos e0]
        subst er
        clear e0 HE k0
        by_cases hz : chk l1 = 0
        · have z1 : (chk l1 != 0) = false := by simp [hz]
          have HZ0 := Aside0.mk hz
          clear hz
          go_wp2_with (go_at_call 53; refine (roll_check A1 c1 l1 _ (Kd.C_below HR1.out HBW.out) HC.out.2).mono ?_; rintro e w' ⟨rfl, hb⟩; have HN := Aside0.mk hb; clear hb)
          go_roundg 0
          case measure => have := HK.out; omega
          case rel => exact ⟨2, by first | rfl | simp, ⟨by omega, by omega⟩, ⟨fun _ => HZ.out.1 (by omega), fun _ => HZ0.out⟩, ⟨below_then HB.out HB.out.size HN.out⟩⟩
        · have z1 : (chk l1 != 0) = true := by simp [hz]
          clear hz
          go_wp2_with (go_at_call 53; refine (roll_check A1 c1 l1 _ (Kd.C_below HR1.out HBW.out) HC.out.2).mono ?_; rintro e w' ⟨rfl, hb⟩; have HN := Aside0.mk hb; clear hb)
          go_ret
          exact ⟨rfl, below_then HBW.out HBW.out.size HN.out⟩
      · have k2 : k = 2 := by have := HK.out; omega
        subst k2
        have er : r = 0 := by rw [← HE.out, if_pos (HZ.out.1 (by omega)), HZ.out.2 (by omega)]
        subst er
        clear k0 k1
        go_wp2
        go_ret
        exact ⟨rfl, HBW.out⟩

end Go.Proofs.Ytkocigldchiifaa.H

/- Words on regions that draw their order. -/
namespace Go.Proofs.Ytkocigldchiifaa.H
open Go.RowKit Go.Proofs.YtkocigldchiifaaW.PrintWords Go.Proofs.YtkocigldchiifaaW.PrintLast Go.Proofs.YtkocigldchiifaaW.PrintMore
set_option linter.unusedVariables false
set_option linter.unusedSimpArgs false

section
variable {P : Program} {ops : Array Oper} {o : Oper} {a : Act} {Q : Exit → Act → World → Prop} {Kc : Act → World → Prop}
theorem store_step {W w1 : World} (hw : Region.wanted o (yielded ops a.tmps) = true) (hN : o.dst = none) (hrun : (execOp a.eval o).run P W = .ok .skip w1) (h : Kc a w1) : if Region.wanted o (yielded ops a.tmps) = true then Oper.wp P o a W Kc Q else Kc (a.put none undef) W := by
 rw [if_pos hw]
 unfold Oper.wp
 rw [hrun]
 show Kc (a.put o.dst undef) w1
 rw [hN]
 exact h
end
section
variable {P : Program} {ops : Array Oper} {Q : Exit → Act → World → Prop} {md : Region.Mode} {S : World → Prop} {ds : List Nat}
theorem lessB {l : Array Bool} {i : Nat} (h : l.getD i true = false) : i < l.size ∧ l[i]? = some false := by
 rcases Nat.lt_or_ge i l.size with hl | hl
 · refine ⟨hl, ?_⟩
   rw [Array.getD_eq_getD_getElem?, Array.getElem?_eq_getElem hl] at h
   rw [Array.getElem?_eq_getElem hl]
   exact congrArg some h
 · rw [Array.getD_eq_getD_getElem?, Array.getElem?_eq_none hl] at h
   cases h
theorem count_setL : ∀ (l : List Bool) (i : Nat), l[i]? = some false → (l.set i true).count false + 1 = l.count false
 | [], i, h => by simp at h
 | x :: r, 0, h => by
  obtain rfl : x = false := by simpa using h
  simp
 | x :: r, i + 1, h => by
  have := count_setL r i (by simpa using h)
  rw [List.set_cons_succ, List.count_cons, List.count_cons]
  omega
theorem count_set {l : Array Bool} {i : Nat} (h : l.getD i true = false) : (l.setIfInBounds i true).toList.count false + 1 = l.toList.count false := by
 obtain ⟨hl, he⟩ := lessB h
 rw [Array.toList_setIfInBounds]
 exact count_setL _ _ (by rw [Array.getElem?_toList]; exact he)
/-- From a state where I holds, whatever comes up: I holds behind it; where nothing is left, Q holds. -/
theorem region_inv (I : Array Bool → Act → World → Prop)
  (hstep : ∀ (l : Array Bool) (a : Act) (w : World) (i : Nat), I l a w → i ∈ Region.ready md ops l → wpOp P ops Q i (fun a' w' => I (l.setIfInBounds i true) a' w') a w)
  (hS : ∀ l a w, I l a w → S w) (hend : ∀ l a w, I l a w → Region.ready md ops l = [] → Q .normal a w) :
  ∀ (n : Nat) (l : Array Bool) (a : Act) (w : World), I l a w → l.toList.count false ≤ n → wpAnyLast P md ops Q S ds n l a w := by
 intro n
 induction n with
 | zero =>
  intro l a w hI hn
  have hr : Region.ready md ops l = [] := by
   rw [List.eq_nil_iff_forall_not_mem]
   intro i hi
   have h := count_set (mem_ready.1 hi).1
   omega
  exact ⟨hr, hend l a w hI hr⟩
 | succ n ih =>
  intro l a w hI hn
  refine ⟨fun hr => hend l a w hI hr, fun i hi => ?_⟩
  have h := count_set (mem_ready.1 hi).1
  exact wpOp_mono (fun a' w' hI' => ⟨fun _ _ => hS _ _ _ hI', ih _ a' w' hI' (by omega)⟩) (hstep l a w i hI hi)
end
theorem put_again (a : Act) (n : Nat) (x y : Value) : (a.put (some n) x).put (some n) y = a.put (some n) y := by
 simp [Act.put]
theorem put_swap (a : Act) (n m : Nat) (x y : Value) (h : n ≠ m) : (a.put (some n) x).put (some m) y = (a.put (some m) y).put (some n) x :=
 Act.put_comm a x y (fun d hd => by injection hd with hd; subst hd; simpa using (Ne.symm h))
theorem eval_same (a : Act) (n : Nat) (x : Value) (h : n < a.tmps.size) : (a.put (some n) x).eval (.tmp n) = x := by
 simp [Act.put, Act.eval, h]
theorem eval_other (a : Act) (n m : Nat) (x : Value) (h : n ≠ m) : (a.put (some n) x).eval (.tmp m) = a.eval (.tmp m) := by
 simp [Act.put, Act.eval, Array.getD_eq_getD_getElem?, Array.getElem?_setIfInBounds_ne h]
theorem put_size (a : Act) (n : Nat) (x : Value) : (a.put (some n) x).tmps.size = a.tmps.size := by simp [Act.put]
theorem put_self (a : Act) (n : Nat) : a.put (some n) (a.eval (.tmp n)) = a := by
 obtain ⟨t, d⟩ := a
 simp only [Act.put, Act.eval]
 congr 1
 refine Array.ext_getElem? fun i => ?_
 by_cases e : n = i
 · subst e
   rcases Nat.lt_or_ge n t.size with h | h
   · simp [h]
   · simp [h]
 · rw [Array.getElem?_setIfInBounds_ne e]
theorem putAll2 (A : Act) (n1 n2 : Nat) (x y : Value) : putAll A [(n1, x), (n2, y)] = (A.put (some n1) x).put (some n2) y := rfl
theorem put2_1 (A : Act) {n1 n2 : Nat} (x y p : Value) (h2 : n1 ≠ n2) : (putAll A [(n1, x), (n2, y)]).put (some n1) p = putAll A [(n1, p), (n2, y)] := by
 rw [putAll2, putAll2, put_swap _ n2 n1 y p (Ne.symm h2), put_again]
theorem put2_2 (A : Act) {n1 n2 : Nat} (x y p : Value) : (putAll A [(n1, x), (n2, y)]).put (some n2) p = putAll A [(n1, x), (n2, p)] := by
 rw [putAll2, putAll2, put_again]
theorem eval2 (A : Act) {n1 n2 : Nat} (x y : Value) (m : Nat) (h1 : n1 ≠ m) (h2 : n2 ≠ m) : (putAll A [(n1, x), (n2, y)]).eval (.tmp m) = A.eval (.tmp m) := by
 rw [putAll2, eval_other _ _ _ _ h2, eval_other _ _ _ _ h1]
theorem eval2_1 (A : Act) {n1 n2 : Nat} (x y : Value) (h2 : n2 ≠ n1) (hs : n1 < A.tmps.size) : (putAll A [(n1, x), (n2, y)]).eval (.tmp n1) = x := by
 rw [putAll2, eval_other _ _ _ _ h2, eval_same _ _ _ hs]
theorem eval2_2 (A : Act) {n1 n2 : Nat} (x y : Value) (hs : n2 < A.tmps.size) : (putAll A [(n1, x), (n2, y)]).eval (.tmp n2) = y := by
 rw [putAll2, eval_same _ _ _ (by rw [put_size]; exact hs)]
theorem wanted_of {o : Oper} {ops : Array Oper} (h : o.guard.isNone = true) (ts : Array Value) : Region.wanted o (yielded ops ts) = true := by
 have : o.guard = none := Option.isNone_iff_eq_none.1 h
 simp [Region.wanted, this]
theorem op_at {ops : Array Oper} {i : Nat} {o : Oper} {x : Op × Option Tmp × Bool} (ho : ops[i]? = some o) (h : (ops[i]?.map fun o => (o.op, o.dst, o.guard.isNone)) = some x) : o.op = x.1 ∧ o.dst = x.2.1 ∧ o.guard.isNone = x.2.2 := by
 rw [ho] at h
 obtain rfl := Option.some.inj h
 exact ⟨rfl, rfl, rfl⟩
theorem dep_of {md : Region.Mode} {ops : Array Oper} {l : Array Bool} {i d : Nat} {o : Oper} (ho : ops[i]? = some o) (hc : (ops[i]?.any fun o => o.after.any fun e => Region.binds md e && e.on == d) = true) (hdep : ∀ e ∈ o.after, Region.binds md e = true → l.getD e.on false = true) : l.getD d false = true := by
 rw [ho] at hc
 have hc2 : (o.after.any fun e => Region.binds md e && e.on == d) = true := hc
 rw [← Array.any_toList, List.any_eq_true] at hc2
 obtain ⟨e, he, h⟩ := hc2
 simp only [Bool.and_eq_true, beq_iff_eq] at h
 rw [← h.2]
 exact hdep e (by simpa using he) h.1
theorem w64' (x : Int) (h0 : -9223372036854775808 ≤ x) (h1 : x ≤ 9223372036854775807) : wrap64 x = x := by unfold wrap64; omega
end Go.Proofs.Ytkocigldchiifaa.H

/- Two events of a table, copied in any order. -/
namespace Go.Proofs.Ytkocigldchiifaa.H
open Go.RowKit Go.Proofs.YtkocigldchiifaaW.PrintWords Go.Proofs.YtkocigldchiifaaW.PrintLast Go.Proofs.YtkocigldchiifaaW.PrintMore
open Go.Proofs.Ytkocigldchiifaa.QA
set_option linter.unusedVariables false
set_option linter.unusedSimpArgs false

/-! Region 1 of function 47: 2 copies, made in any order. -/
/-- One of the copies: where it lies, and what it holds so far. -/
def Far1Ch (W : World) (base : Nat) (al st : Bool) (x : Value) (g : Nat) (V : Array Value) : Prop :=
 al = true → x = .pointer (some ⟨g, 0, none⟩) ∧ base ≤ g ∧ W.heap[g]? = some (.cells (if st then V else #[.int .i64 0, .int .i64 0, .int .i64 0]) 59 (0, 0))
theorem Far1Ch.below {W W' : World} {base g : Nat} {al st : Bool} {x : Value} {V : Array Value} (h : Far1Ch W base al st x g V) (hb : Below W.heap.size W W') : Far1Ch W' base al st x g V := fun ha => by
 obtain ⟨h1, h2, h3⟩ := h ha
 exact ⟨h1, h2, blk_below h3 hb⟩
theorem Far1Ch.alloc {W : World} {base : Nat} {V : Array Value} (h : base ≤ W.heap.size) : Far1Ch (W.alloc (.cells #[.int .i64 0, .int .i64 0, .int .i64 0] 59)) base true false (.pointer (some ⟨W.heap.size, 0, none⟩)) W.heap.size V := fun _ => ⟨rfl, h, blk_new W _⟩
theorem Far1Ch.lt {W : World} {base : Nat} {x : Value} {al st : Bool} {g : Nat} {V : Array Value} (h : Far1Ch W base al st x g V) (ha : al = true) : g < W.heap.size := blk_lt (h ha).2.2
theorem Far1Ch.far {W W' : World} {base : Nat} {x : Value} {al st : Bool} {g q : Nat} {V : Array Value} (h : Far1Ch W base al st x g V) (hk : ∀ k, k ≠ q → W'.heap[k]? = W.heap[k]?) (hne : al = true → g ≠ q) : Far1Ch W' base al st x g V := fun ha => ⟨(h ha).1, (h ha).2.1, (hk _ (hne ha)).trans (h ha).2.2⟩
theorem far1_stored (W : World) {g : Nat} {c0 c1 c2 u0 u1 u2 : Value} {t : TypeId} (h : W.heap[g]? = some (.cells #[c0, c1, c2] t (0, 0))) : (((W.setCell ⟨g, 0, none⟩ u0).setCell ⟨g, 1, none⟩ u1).setCell ⟨g, 2, none⟩ u2).heap[g]? = some (.cells #[u0, u1, u2] t (0, 0)) ∧ ∀ k, k ≠ g → (((W.setCell ⟨g, 0, none⟩ u0).setCell ⟨g, 1, none⟩ u1).setCell ⟨g, 2, none⟩ u2).heap[k]? = W.heap[k]? := by
 refine ⟨?_, fun k hk => ?_⟩
 · have h1 := blk_set h 0 u0
   have h2 := blk_set h1 1 u1
   have h3 := blk_set h2 2 u2
   simpa using h3
 · rw [Below.heap_setCell _ _ _ _ hk, Below.heap_setCell _ _ _ _ hk, Below.heap_setCell _ _ _ _ hk]
theorem far1_store0 {X : Prop} {ops : Array Oper} {o : Oper} {a : Act} {Kc : Act → World → Prop} {Q : Exit → Act → World → Prop} {W : World} {g : Nat} {e0 e1 e2 d0 d1 d2 : Int} {p x : Operand} (hw : Region.wanted o (yielded ops a.tmps) = true) (hN : o.dst = none) (hop : o.op = .store 59 p x)
  (hp : a.eval p = .pointer (some ⟨g, 0, none⟩)) (hx : a.eval x = .agg #[.int .i64 d0, .int .i64 d1, .int .i64 d2]) (hb : W.heap[g]? = some (.cells #[.int .i64 0, .int .i64 0, .int .i64 0] 59 (0, 0)))
  (h : Kc a (((W.setCell ⟨g, 0, none⟩ (.int .i64 d0)).setCell ⟨g, 1, none⟩ (.int .i64 d1)).setCell ⟨g, 2, none⟩ (.int .i64 d2))) : if Region.wanted o (yielded ops a.tmps) = true then Oper.wp Try.prog o a W Kc Q else X := by
 have key := store_step (P := Try.prog) (Q := Q) (Kc := Kc) (W := W) (a := a) (w1 := (((W.setCell ⟨g, 0, none⟩ (.int .i64 d0)).setCell ⟨g, 1, none⟩ (.int .i64 d1)).setCell ⟨g, 2, none⟩ (.int .i64 d2))) hw hN ?_ h
 · rw [if_pos hw] at key ⊢; exact key
 have c0 : W.cell? ⟨g, 0, none⟩ = some (.int .i64 0) := (blk_cell hb 0).trans rfl
 have f0 : W.frozen? ⟨g, 0, none⟩ = false := blk_frozen hb 0
 have hb0 := blk_set hb 0 (.int .i64 d0)
 have c1 : (W.setCell ⟨g, 0, none⟩ (.int .i64 d0)).cell? ⟨g, 1, none⟩ = some (.int .i64 0) := (blk_cell hb0 1).trans rfl
 have f1 : (W.setCell ⟨g, 0, none⟩ (.int .i64 d0)).frozen? ⟨g, 1, none⟩ = false := blk_frozen hb0 1
 have hb1 := blk_set hb0 1 (.int .i64 d1)
 have c2 : ((W.setCell ⟨g, 0, none⟩ (.int .i64 d0)).setCell ⟨g, 1, none⟩ (.int .i64 d1)).cell? ⟨g, 2, none⟩ = some (.int .i64 0) := (blk_cell hb1 2).trans rfl
 have f2 : ((W.setCell ⟨g, 0, none⟩ (.int .i64 d0)).setCell ⟨g, 1, none⟩ (.int .i64 d1)).frozen? ⟨g, 2, none⟩ = false := blk_frozen hb1 2
 clear h hb hb0 hb1
 have hu := Try.underlying59
 unfold execOp
 simp [hop, hp, hx]
 go_simp
theorem far1_store1 {X : Prop} {ops : Array Oper} {o : Oper} {a : Act} {Kc : Act → World → Prop} {Q : Exit → Act → World → Prop} {W : World} {g : Nat} {e0 e1 e2 d0 d1 d2 : Int} {p x : Operand} (hw : Region.wanted o (yielded ops a.tmps) = true) (hN : o.dst = none) (hop : o.op = .store 59 p x)
  (hp : a.eval p = .pointer (some ⟨g, 0, none⟩)) (hx : a.eval x = .agg #[.int .i64 e0, .int .i64 e1, .int .i64 e2]) (hb : W.heap[g]? = some (.cells #[.int .i64 0, .int .i64 0, .int .i64 0] 59 (0, 0)))
  (h : Kc a (((W.setCell ⟨g, 0, none⟩ (.int .i64 e0)).setCell ⟨g, 1, none⟩ (.int .i64 e1)).setCell ⟨g, 2, none⟩ (.int .i64 e2))) : if Region.wanted o (yielded ops a.tmps) = true then Oper.wp Try.prog o a W Kc Q else X := by
 have key := store_step (P := Try.prog) (Q := Q) (Kc := Kc) (W := W) (a := a) (w1 := (((W.setCell ⟨g, 0, none⟩ (.int .i64 e0)).setCell ⟨g, 1, none⟩ (.int .i64 e1)).setCell ⟨g, 2, none⟩ (.int .i64 e2))) hw hN ?_ h
 · rw [if_pos hw] at key ⊢; exact key
 have c0 : W.cell? ⟨g, 0, none⟩ = some (.int .i64 0) := (blk_cell hb 0).trans rfl
 have f0 : W.frozen? ⟨g, 0, none⟩ = false := blk_frozen hb 0
 have hb0 := blk_set hb 0 (.int .i64 e0)
 have c1 : (W.setCell ⟨g, 0, none⟩ (.int .i64 e0)).cell? ⟨g, 1, none⟩ = some (.int .i64 0) := (blk_cell hb0 1).trans rfl
 have f1 : (W.setCell ⟨g, 0, none⟩ (.int .i64 e0)).frozen? ⟨g, 1, none⟩ = false := blk_frozen hb0 1
 have hb1 := blk_set hb0 1 (.int .i64 e1)
 have c2 : ((W.setCell ⟨g, 0, none⟩ (.int .i64 e0)).setCell ⟨g, 1, none⟩ (.int .i64 e1)).cell? ⟨g, 2, none⟩ = some (.int .i64 0) := (blk_cell hb1 2).trans rfl
 have f2 : ((W.setCell ⟨g, 0, none⟩ (.int .i64 e0)).setCell ⟨g, 1, none⟩ (.int .i64 e1)).frozen? ⟨g, 2, none⟩ = false := blk_frozen hb1 2
 clear h hb hb0 hb1
 have hu := Try.underlying59
 unfold execOp
 simp [hop, hp, hx]
 go_simp
theorem far1_alloc {X : Prop} {ops : Array Oper} {o : Oper} {a : Act} {Kc : Act → World → Prop} {Q : Exit → Act → World → Prop} {W : World} (n : Nat) (hw : Region.wanted o (yielded ops a.tmps) = true) (hN : o.dst = some n) (hop : o.op = .alloc 59)
  (h : Kc (a.put (some n) (.pointer (some ⟨W.heap.size, 0, none⟩))) (W.alloc (.cells #[.int .i64 0, .int .i64 0, .int .i64 0] 59))) : if Region.wanted o (yielded ops a.tmps) = true then Oper.wp Try.prog o a W Kc Q else X := by
 have hu := Try.underlying59
 have := event_step (P := Try.prog) (Q := Q) (Kc := Kc) (W := W) hw (o := o) (a := a) (w1 := W.alloc (.cells #[.int .i64 0, .int .i64 0, .int .i64 0] 59)) (v := .pointer (some ⟨W.heap.size, 0, none⟩)) (by
  unfold execOp
  simp [hop]
  go_simp
  try rfl) (by rw [hN]; exact h)
 rw [if_pos hw] at this ⊢
 exact this
theorem far1_cases {i : Nat} {l : Array Bool} {b16 b17 b18 b19 : Bool} (hl : l = #[true, true, true, true, true, true, true, true, true, true, true, true, true, true, true, true, b16, b17, b18, b19]) (h : l.getD i true = false) : (i = 16 ∧ b16 = false) ∨ (i = 17 ∧ b17 = false) ∨ (i = 18 ∧ b18 = false) ∨ (i = 19 ∧ b19 = false) := by
 subst hl
 match i, h with
 | 0, h => cases h
 | 1, h => cases h
 | 2, h => cases h
 | 3, h => cases h
 | 4, h => cases h
 | 5, h => cases h
 | 6, h => cases h
 | 7, h => cases h
 | 8, h => cases h
 | 9, h => cases h
 | 10, h => cases h
 | 11, h => cases h
 | 12, h => cases h
 | 13, h => cases h
 | 14, h => cases h
 | 15, h => cases h
 | 16, h => exact .inl ⟨rfl, h⟩
 | 17, h => exact .inr (.inl ⟨rfl, h⟩)
 | 18, h => exact .inr (.inr (.inl ⟨rfl, h⟩))
 | 19, h => exact .inr (.inr (.inr ⟨rfl, h⟩))
 | n + 20, h => simp at h
def Far1 (A : Act) (W0 : World) (e0 e1 e2 d0 d1 d2 : Int) (l : Array Bool) (a : Act) (W : World) : Prop :=
 ∃ (b16 b17 b18 b19 : Bool) (x0 x1 : Value) (g0 g1 : Nat), l = #[true, true, true, true, true, true, true, true, true, true, true, true, true, true, true, true, b16, b17, b18, b19] ∧ a = putAll A [(5, x0), (6, x1)] ∧ Below W0.heap.size W0 W ∧ (Far1Ch W W0.heap.size b16 b18 x0 g0 #[.int .i64 e0, .int .i64 e1, .int .i64 e2] ∧ Far1Ch W W0.heap.size b17 b19 x1 g1 #[.int .i64 d0, .int .i64 d1, .int .i64 d2]) ∧ ((b16 = true → b17 = true → g0 ≠ g1)) ∧ ((b16 = false → b18 = false) ∧ (b17 = false → b19 = false))
set_option maxRecDepth 100000 in
theorem far1 {Q : Exit → Act → World → Prop} {S : World → Prop} {ds : List Nat} (A : Act) (W0 : World) (e0 e1 e2 d0 d1 d2 : Int) (hA : A.tmps.size = 39) (h14 : A.eval (.tmp 14) = .agg #[.int .i64 e0, .int .i64 e1, .int .i64 e2]) (h22 : A.eval (.tmp 22) = .agg #[.int .i64 d0, .int .i64 d1, .int .i64 d2])
  (hS : ∀ W', Below W0.heap.size W0 W' → S W')
  (hend : ∀ (g0 g1 : Nat) (W' : World), Below W0.heap.size W0 W' → (W0.heap.size ≤ g0 ∧ W0.heap.size ≤ g1) → (g0 ≠ g1) → W'.heap[g0]? = some (.cells #[.int .i64 e0, .int .i64 e1, .int .i64 e2] 59 (0, 0)) → W'.heap[g1]? = some (.cells #[.int .i64 d0, .int .i64 d1, .int .i64 d2] 59 (0, 0)) → Q .normal (putAll A [(5, .pointer (some ⟨g0, 0, none⟩)), (6, .pointer (some ⟨g1, 0, none⟩))]) W') :
  wpAnyLast Try.prog .any (opsOf Try.f47 1) Q S ds 4 #[true, true, true, true, true, true, true, true, true, true, true, true, true, true, true, true, false, false, false, false] A W0 := by
 refine region_inv (Far1 A W0 e0 e1 e2 d0 d1 d2) ?_ ?_ ?_ 4 _ _ _ ?_ (by decide)
 · rintro l a W i ⟨b16, b17, b18, b19, x0, x1, g0, g1, hl, rfl, hB, ⟨C0, C1⟩, D01, ⟨U0, U1⟩⟩ hi
   obtain ⟨hun, o, ho, hdep⟩ := mem_ready.1 hi
   clear hi
   have hB0 := hB.size
   rcases far1_cases hl hun with ⟨rfl, rfl⟩ | ⟨rfl, rfl⟩ | ⟨rfl, rfl⟩ | ⟨rfl, rfl⟩
   · refine wpOp_step (o := o) ho fun K hK => ?_
     have hst : b18 = false := U0 rfl
     subst hst
     obtain ⟨o1, o2, o3⟩ := op_at ho (x := (.alloc 59, some 5, true)) (by kernel_rfl)
     refine far1_alloc 5 (wanted_of o3 _) o2 o1 ?_
     refine hK _ _ ?_
     subst hl
     exact ⟨true, b17, false, b19, _, _, _, _, rfl, put2_1 _ _ _ _ (by decide), hB.alloc hB0 _, ⟨Far1Ch.alloc hB0, C1.below (below_alloc (Below.refl _ _) _)⟩, (fun _ h => by have := C1.lt h; omega), ⟨(fun _ => rfl), U1⟩⟩
   · refine wpOp_step (o := o) ho fun K hK => ?_
     have hst : b19 = false := U1 rfl
     subst hst
     obtain ⟨o1, o2, o3⟩ := op_at ho (x := (.alloc 59, some 6, true)) (by kernel_rfl)
     refine far1_alloc 6 (wanted_of o3 _) o2 o1 ?_
     refine hK _ _ ?_
     subst hl
     exact ⟨b16, true, b18, false, _, _, _, _, rfl, put2_2 _ _ _ _, hB.alloc hB0 _, ⟨C0.below (below_alloc (Below.refl _ _) _), Far1Ch.alloc hB0⟩, (fun h _ => by have := C0.lt h; omega), ⟨U0, (fun _ => rfl)⟩⟩
   · refine wpOp_step (o := o) ho fun K hK => ?_
     obtain ⟨o1, o2, o3⟩ := op_at ho (x := (.store 59 (.tmp 5) (.tmp 14), none, true)) (by kernel_rfl)
     have hal : b16 = true := by
      have := dep_of (d := 16) ho (by kernel_rfl) hdep
      rw [hl] at this
      exact this
     subst hal
     have s1 := (C0 rfl).2.2
     have s2 := far1_stored W (u0 := .int .i64 e0) (u1 := .int .i64 e1) (u2 := .int .i64 e2) s1
     refine far1_store1 (e0 := e0) (e1 := e1) (e2 := e2) (d0 := d0) (d1 := d1) (d2 := d2) (g := g0) (wanted_of o3 _) o2 o1 ((eval2_1 _ _ _ (by decide) (by rw [hA]; decide)).trans (C0 rfl).1) ((eval2 _ _ _ 14 (by decide) (by decide)).trans h14) s1 ?_
     refine hK _ _ ?_
     subst hl
     exact ⟨true, b17, true, b19, x0, x1, g0, g1, rfl, rfl, below_set (below_set (below_set hB (C0 rfl).2.1) (C0 rfl).2.1) (C0 rfl).2.1, ⟨(fun _ => ⟨(C0 rfl).1, (C0 rfl).2.1, s2.1⟩), (C1.far s2.2 (fun h => (Ne.symm (D01 rfl h))))⟩, D01, ⟨(fun h => by cases h), U1⟩⟩
   · refine wpOp_step (o := o) ho fun K hK => ?_
     obtain ⟨o1, o2, o3⟩ := op_at ho (x := (.store 59 (.tmp 6) (.tmp 22), none, true)) (by kernel_rfl)
     have hal : b17 = true := by
      have := dep_of (d := 17) ho (by kernel_rfl) hdep
      rw [hl] at this
      exact this
     subst hal
     have s1 := (C1 rfl).2.2
     have s2 := far1_stored W (u0 := .int .i64 d0) (u1 := .int .i64 d1) (u2 := .int .i64 d2) s1
     refine far1_store0 (e0 := e0) (e1 := e1) (e2 := e2) (d0 := d0) (d1 := d1) (d2 := d2) (g := g1) (wanted_of o3 _) o2 o1 ((eval2_2 _ _ _ (by rw [hA]; decide)).trans (C1 rfl).1) ((eval2 _ _ _ 22 (by decide) (by decide)).trans h22) s1 ?_
     refine hK _ _ ?_
     subst hl
     exact ⟨b16, true, b18, true, x0, x1, g0, g1, rfl, rfl, below_set (below_set (below_set hB (C1 rfl).2.1) (C1 rfl).2.1) (C1 rfl).2.1, ⟨(C0.far s2.2 (fun h => D01 h rfl)), (fun _ => ⟨(C1 rfl).1, (C1 rfl).2.1, s2.1⟩)⟩, D01, ⟨U0, (fun h => by cases h)⟩⟩
 · rintro l a W ⟨b16, b17, b18, b19, x0, x1, g0, g1, hl, rfl, hB, ⟨C0, C1⟩, D01, ⟨U0, U1⟩⟩
   exact hS W hB
 · rintro l a W ⟨b16, b17, b18, b19, x0, x1, g0, g1, hl, rfl, hB, ⟨C0, C1⟩, D01, ⟨U0, U1⟩⟩ hr
   subst hl
   have key : ∀ c16 c17 c18 c19 : Bool, Region.ready .any (opsOf Try.f47 1) #[true, true, true, true, true, true, true, true, true, true, true, true, true, true, true, true, c16, c17, c18, c19] = [] → c16 = true ∧ c17 = true ∧ c18 = true ∧ c19 = true := by decide +kernel
   obtain ⟨rfl, rfl, rfl, rfl⟩ := key _ _ _ _ hr
   obtain ⟨rfl, p0, q0⟩ := C0 rfl
   obtain ⟨rfl, p1, q1⟩ := C1 rfl
   exact hend g0 g1 W hB ⟨p0, p1⟩ (D01 rfl rfl) q0 q1
 · refine ⟨false, false, false, false, A.eval (.tmp 5), A.eval (.tmp 6), 0, 0, rfl, ?_, Below.refl _ _, ⟨(fun h => by cases h), (fun h => by cases h)⟩, (fun h => by cases h), ⟨(fun _ => rfl), (fun _ => rfl)⟩⟩
   simp only [putAll, put_self]
end Go.Proofs.Ytkocigldchiifaa.H

/- The table of two rolls: its pairs, their distances; newTable, Distance. -/
namespace Go.Proofs.Ytkocigldchiifaa.H
open Go.RowKit Go.Proofs.YtkocigldchiifaaW.PrintWords Go.Proofs.YtkocigldchiifaaW.PrintLast Go.Proofs.YtkocigldchiifaaW.PrintMore
open Go.Shelf Go.Proofs.Ytkocigldchiifaa.QA
set_option linter.unusedVariables false
set_option linter.unusedSimpArgs false

def far1_T : Bool × List (List Nat × List Nat) := (true, [([], []), ([0], [0]), ([1], [1]), ([2], [2]), ([], []), ([4], [4]), ([3, 5], [3, 5]), ([6], [6]), ([], []), ([8], [8]), ([9], [9]), ([10], [10]), ([], []), ([12], [12]), ([11, 13], [11, 13]), ([14], [14]), ([], []), ([], []), ([16, 7, 0, 1, 2, 3, 4, 5, 6, 7, 16, 17], [7, 16]), ([17, 15, 18, 0, 1, 2, 3, 4, 5, 6, 7, 8, 9, 10, 11, 12, 13, 14, 15, 16, 17, 18], [15, 17])])
def far1_B : List Nat := [0, 1, 3, 7, 0, 16, 63, 127, 0, 256, 768, 1792, 0, 4096, 16128, 32512, 0, 0, 196863, 524287]
theorem far1_tab : rtab .any (opsOf Try.f47 1) = far1_T := by kernel_rfl
theorem far1_bits : waitsOk far1_T.2 far1_B = true := by kernel_rfl

def apartD (a b : Int) : Int := mx (a - b) (b - a)
/-- The distance of two events. -/
def farD (x y : S59) : Int := if x.f0 = y.f0 then apartD x.f1 y.f1 + apartD x.f2 y.f2 else 1000000
theorem apartD_in (a b : Int) (n : Int) (ha : 0 ≤ a ∧ a ≤ n) (hb : 0 ≤ b ∧ b ≤ n) : 0 ≤ apartD a b ∧ apartD a b ≤ n := by
 unfold apartD mx
 split <;> omega
section
attribute [local go_sem] max2_int min2_int max_two min_two max_three min_three max_four min_four
theorem apart_calls (a b : Int) (w : World) (ha : -1000000 ≤ a ∧ a ≤ 1000000) (hb : -1000000 ≤ b ∧ b ≤ 1000000) : Calls Try.prog 70 #[.int .i64 a, .int .i64 b] w fun e w' => e = .returned (.int .i64 (apartD a b)) ∧ w' = w := by
 obtain ⟨r, hr⟩ : ∃ r, r = apartD a b := ⟨_, rfl⟩
 rw [← hr]
 have e1 : wrap64 (a - b) = a - b := w64' _ (by omega) (by omega)
 have e2 : wrap64 (b - a) = b - a := w64' _ (by omega) (by omega)
 unfold apartD mx at hr
 have HH := Aside0.mk hr
 clear hr
 go_enter Try.func70, Try.ntmps70
 go_wp2
 all_goals
  go_ret
  refine ⟨?_, rfl⟩
  rw [HH.out]
  first | (rw [if_pos (by omega)]; rfl) | (rw [if_neg (by omega)]; rfl)
end
/-- A table: two rolls, that lie somewhere, and the numbers of their last events. -/
def Tb (w : World) (g : Nat) (a b : List S59) : Prop := ∃ A0 c0 A1 c1, w.heap[g]? = some (.cells #[.slice A0 a.length c0, .slice A1 b.length c1, .int .i64 ((a.length : Int) - 1), .int .i64 ((b.length : Int) - 1)] 92 (0, 0)) ∧ Kd.C k59 w A0 a.length a ∧ Kd.C k59 w A1 b.length b
theorem Tb.below {w w' : World} {g : Nat} {a b : List S59} (h : Tb w g a b) (hb : Below w.heap.size w w') : Tb w' g a b := by
 obtain ⟨A0, c0, A1, c1, h1, h2, h3⟩ := h
 exact ⟨A0, c0, A1, c1, blk_below h1 hb, Kd.C_below h2 hb, Kd.C_below h3 hb⟩
theorem Tb.lt {w : World} {g : Nat} {a b : List S59} (h : Tb w g a b) : g < w.heap.size := by
 obtain ⟨A0, c0, A1, c1, h1, h2, h3⟩ := h
 exact blk_lt h1
/-- The rolls are as stated. -/
structure Rolls (a b : List S59) : Prop where
 ha : 1 ≤ a.length ∧ a.length ≤ 30
 hb : 1 ≤ b.length ∧ b.length ≤ 30
 ga : ∀ x ∈ a, goodB x = true
 gb : ∀ x ∈ b, goodB x = true
theorem good_in {x : S59} (h : goodB x = true) : (1 ≤ x.f0 ∧ x.f0 ≤ 88) ∧ (0 ≤ x.f1 ∧ x.f1 ≤ 1000) ∧ (0 ≤ x.f2 ∧ x.f2 ≤ 1000) := by
 unfold goodB isIn at h
 simp only [Bool.and_eq_true, decide_eq_true_iff] at h
 exact ⟨h.1, h.2.1, h.2.2⟩
theorem far_in {x y : S59} (hx : goodB x = true) (hy : goodB y = true) : 0 ≤ farD x y ∧ farD x y ≤ 1000000 := by
 obtain ⟨_, h2, h3⟩ := good_in hx
 obtain ⟨_, h5, h6⟩ := good_in hy
 unfold farD
 split
 · have q1 := apartD_in x.f1 y.f1 1000 h2 h5
   have q2 := apartD_in x.f2 y.f2 1000 h3 h6
   omega
 · omega
theorem chk_zero {l : List S59} (h : chk l = 0) : (1 ≤ l.length ∧ l.length ≤ 30) ∧ ∀ x ∈ l, goodB x = true := by
 unfold chk at h
 split at h
 · cases h
 · split at h
   · cases h
   · split at h
     · cases h
     · rename_i h0 h1 h2
       refine ⟨by omega, fun x hx => ?_⟩
       cases hg : goodB x with
       | true => rfl
       | false => exact absurd (List.any_eq_true.2 ⟨x, hx, by rw [hg]; rfl⟩) h2
theorem rolls_of {a b : List S59} (h : align_Check.f a b = some 0) : Rolls a b := by
 unfold align_Check.f at h
 have h1 := Option.some.inj h
 by_cases h0 : chk a = 0
 · rw [if_pos h0] at h1
   exact ⟨(chk_zero h0).1, (chk_zero h1).1, (chk_zero h0).2, (chk_zero h1).2⟩
 · rw [if_neg h0] at h1
   exact absurd h1 h0
/-- A pair is one of the table's. -/
def hasP (a b : List S59) (i k : Int) : Bool := isIn 0 i ((a.length : Int) - 1) && isIn 0 k ((b.length : Int) - 1)
theorem hasP_iff (a b : List S59) (i k : Int) : hasP a b i k = true ↔ (0 ≤ i ∧ i < a.length) ∧ (0 ≤ k ∧ k < b.length) := by
 unfold hasP isIn
 simp only [Bool.and_eq_true, decide_eq_true_iff]
 constructor
 · rintro ⟨h1, h2⟩; omega
 · rintro ⟨h1, h2⟩; omega

set_option maxRecDepth 100000 in
theorem has_calls (g : Nat) (a b : List S59) (i k : Int) (w : World) (h : Tb w g a b) :
  Calls Try.prog 46 #[.pointer (some ⟨g, 0, none⟩), .agg #[.int .i64 i, .int .i64 k]] w fun e w' => e = .returned (.bool (hasP a b i k)) ∧ Below w.heap.size w w' := by
 have hu25 := Try.underlying25
 have hlt := h.lt
 obtain ⟨A0, c0, A1, c1, h1, _, _⟩ := h
 have k2 : w.cell? ⟨g, 2, none⟩ = some (.int .i64 ((a.length : Int) - 1)) := (blk_cell h1 2).trans rfl
 have k3 : w.cell? ⟨g, 3, none⟩ = some (.int .i64 ((b.length : Int) - 1)) := (blk_cell h1 3).trans rfl
 clear h1
 obtain ⟨la, hla⟩ : ∃ la, la = (a.length : Int) - 1 := ⟨_, rfl⟩
 obtain ⟨lb, hlb⟩ : ∃ lb, lb = (b.length : Int) - 1 := ⟨_, rfl⟩
 unfold hasP
 rw [← hla, ← hlb]
 rw [← hla] at k2
 rw [← hlb] at k3
 clear hla hlb
 have hb := below_alloc (Below.refl w.heap.size w) (.cells #[.int .i64 i, .int .i64 k] 25)
 have bp := blk_new w (.cells #[.int .i64 i, .int .i64 k] 25)
 have y0 : (w.alloc (.cells #[.int .i64 i, .int .i64 k] 25)).cell? ⟨w.heap.size, 0, none⟩ = some (.int .i64 i) := (blk_cell bp 0).trans rfl
 have y1 : (w.alloc (.cells #[.int .i64 i, .int .i64 k] 25)).cell? ⟨w.heap.size, 1, none⟩ = some (.int .i64 k) := (blk_cell bp 1).trans rfl
 replace k2 := (hb.cell (p := ⟨g, 2, none⟩) hlt).trans k2
 replace k3 := (hb.cell (p := ⟨g, 3, none⟩) hlt).trans k3
 have HB := Aside0.mk hb
 clear bp hlt hb
 cases q1 : isIn 0 i la <;> cases q2 : isIn 0 k lb
 all_goals
  have Q1 := Aside0.mk q1
  have Q2 := Aside0.mk q2
  clear q1 q2
  go_enter Try.func46, Try.ntmps46
  go_wp2_with fail
  generalize w.alloc (.cells #[.int .i64 i, .int .i64 k] 25) = w1 at y0 y1 k2 k3 HB ⊢
  generalize w.heap.size = B at y0 y1 ⊢
  go_quiet ((go_at_call 69; (with_reducible refine (bt_calls _ _ _ _).mono ?_); (first | rw [Q1.out] | rw [Q2.out]); rintro e w' ⟨rfl, ⟨nd, rfl⟩⟩; exact ⟨rfl, _, World.drewN_drewN _ _ _⟩))
  go_wp2
  go_ret
  exact ⟨rfl, by repeat (first | exact HB.out | apply pw_below_drewN | apply below_alloc)⟩

end Go.Proofs.Ytkocigldchiifaa.H

/- The distance of a pair of a table; what begins and ends a barrier; newTable, Distance. -/
namespace Go.Proofs.Ytkocigldchiifaa.H
open Go.RowKit Go.Proofs.YtkocigldchiifaaW.PrintWords Go.Proofs.YtkocigldchiifaaW.PrintLast Go.Proofs.YtkocigldchiifaaW.PrintMore
open Go.Shelf Go.Proofs.Ytkocigldchiifaa.QA
set_option linter.unusedVariables false
set_option linter.unusedSimpArgs false

set_option maxHeartbeats 4000000 in
set_option maxRecDepth 100000 in
theorem far_calls (g : Nat) (a b : List S59) (i k : Int) (w : World) (h : Tb w g a b) (hR : Rolls a b) (hi0 : 0 ≤ i) (hi1 : i < a.length) (hk0 : 0 ≤ k) (hk1 : k < b.length) :
  Calls Try.prog 47 #[.pointer (some ⟨g, 0, none⟩), .agg #[.int .i64 i, .int .i64 k]] w fun e w' => e = .returned (.int .i64 (farD (rd_T59 a i) (rd_T59 b k))) ∧ Below w.heap.size w w' := by
 have hu25 := Try.underlying25
 have hu59 := Try.underlying59
 have hlt := h.lt
 have hgx : goodB (rd_T59 a i) = true := hR.ga _ (by unfold rd_T59; rw [List.getD_eq_getElem?_getD, List.getElem?_eq_getElem (show i.toNat < a.length by omega)]; exact List.getElem_mem _)
 have hgy : goodB (rd_T59 b k) = true := hR.gb _ (by unfold rd_T59; rw [List.getD_eq_getElem?_getD, List.getElem?_eq_getElem (show k.toNat < b.length by omega)]; exact List.getElem_mem _)
 obtain ⟨A0, c0, A1, c1, h1, hCa, hCb⟩ := h
 have hb := below_alloc (Below.refl w.heap.size w) (.cells #[.int .i64 i, .int .i64 k] 25)
 have bp := blk_new w (.cells #[.int .i64 i, .int .i64 k] 25)
 have BT := Aside0.mk (blk_below h1 hb)
 have BP := Aside0.mk bp
 obtain ⟨ax, rfl, x0, x1, x2⟩ := at_T59 (Kd.C_below hCa hb) i hi0 hi1
 obtain ⟨ay, rfl, y0, y1, y2⟩ := at_T59 (Kd.C_below hCb hb) k hk0 hk1
 have HX := Aside0.mk (And.intro x0 (And.intro x1 x2))
 have HY := Aside0.mk (And.intro y0 (And.intro y1 y2))
 have HB := Aside0.mk hb
 have HG := Aside0.mk (And.intro hgx hgy)
 clear x0 x1 x2 y0 y1 y2 hb bp h1 hCa hCb hlt hgx hgy hR
 generalize rd_T59 a i = x at HX HG ⊢
 generalize rd_T59 b k = y at HY HG ⊢
 obtain ⟨e0, e1, e2⟩ := x
 obtain ⟨d0, d1, d2⟩ := y
 dsimp only at HX HY
 obtain ⟨r, hr⟩ : ∃ r, r = farD ⟨e0, e1, e2⟩ ⟨d0, d1, d2⟩ := ⟨_, rfl⟩
 rw [← hr]
 unfold farD at hr
 dsimp only at hr
 have HRR := Aside0.mk hr
 clear hr
 go_enter Try.func47, Try.ntmps47
 go_upto_region 1 with fail
 replace BT := Aside0.mk (blk_drew BT.out)
 replace BP := Aside0.mk (blk_drew BP.out)
 replace HB := Aside0.mk (below_drew1 HB.out)
 obtain ⟨x0, x1, x2⟩ := HX.out
 obtain ⟨y0, y1, y2⟩ := HY.out
 have z0 : (w.alloc (.cells #[.int .i64 i, .int .i64 k] 25)).drew.cell? _ = _ := x0
 have z1 : (w.alloc (.cells #[.int .i64 i, .int .i64 k] 25)).drew.cell? _ = _ := x1
 have z2 : (w.alloc (.cells #[.int .i64 i, .int .i64 k] 25)).drew.cell? _ = _ := x2
 have z3 : (w.alloc (.cells #[.int .i64 i, .int .i64 k] 25)).drew.cell? _ = _ := y0
 have z4 : (w.alloc (.cells #[.int .i64 i, .int .i64 k] 25)).drew.cell? _ = _ := y1
 have z5 : (w.alloc (.cells #[.int .i64 i, .int .i64 k] 25)).drew.cell? _ = _ := y2
 clear x0 x1 x2 y0 y1 y2 HX HY
 have HSF := Aside0.mk (And.intro (blk_cell BT.out 0) (And.intro (blk_cell BT.out 1) (And.intro (blk_cell BP.out 0) (And.intro (blk_cell BP.out 1) (And.intro z0 (And.intro z1 (And.intro z2 (And.intro z3 (And.intro z4 z5)))))))))
 clear z0 z1 z2 z3 z4 z5
 have HS0 := Aside0.mk (show (w.alloc (.cells #[.int .i64 i, .int .i64 k] 25)).drew.cell? ⟨g, 0, none⟩ = some (.slice (some ax) a.length c0) ∧ (w.alloc (.cells #[.int .i64 i, .int .i64 k] 25)).drew.cell? ⟨g, 1, none⟩ = some (.slice (some ay) b.length c1) ∧ (w.alloc (.cells #[.int .i64 i, .int .i64 k] 25)).drew.cell? ⟨w.heap.size, 0, none⟩ = some (.int .i64 i) ∧ (w.alloc (.cells #[.int .i64 i, .int .i64 k] 25)).drew.cell? ⟨w.heap.size, 1, none⟩ = some (.int .i64 k) ∧ (w.alloc (.cells #[.int .i64 i, .int .i64 k] 25)).drew.cell? (ax.add (i.toNat * 3)) = some (.int .i64 e0) ∧ (w.alloc (.cells #[.int .i64 i, .int .i64 k] 25)).drew.cell? ⟨(ax.add (i.toNat * 3)).block, (ax.add (i.toNat * 3)).off + 1, none⟩ = some (.int .i64 e1) ∧ (w.alloc (.cells #[.int .i64 i, .int .i64 k] 25)).drew.cell? ⟨(ax.add (i.toNat * 3)).block, (ax.add (i.toNat * 3)).off + 2, none⟩ = some (.int .i64 e2) ∧ (w.alloc (.cells #[.int .i64 i, .int .i64 k] 25)).drew.cell? (ay.add (k.toNat * 3)) = some (.int .i64 d0) ∧ (w.alloc (.cells #[.int .i64 i, .int .i64 k] 25)).drew.cell? ⟨(ay.add (k.toNat * 3)).block, (ay.add (k.toNat * 3)).off + 1, none⟩ = some (.int .i64 d1) ∧ (w.alloc (.cells #[.int .i64 i, .int .i64 k] 25)).drew.cell? ⟨(ay.add (k.toNat * 3)).block, (ay.add (k.toNat * 3)).off + 2, none⟩ = some (.int .i64 d2) from by
  obtain ⟨s0, s1, s2, s3, s4⟩ := HSF.out
  exact ⟨s0.trans rfl, s1.trans rfl, s2.trans rfl, s3.trans rfl, s4⟩)
 have hSX : ∀ W' : World, Below (w.alloc (.cells #[.int .i64 i, .int .i64 k] 25)).drew.heap.size (w.alloc (.cells #[.int .i64 i, .int .i64 k] 25)).drew W' → W'.cell? ⟨g, 0, none⟩ = some (.slice (some ax) a.length c0) ∧ W'.cell? ⟨g, 1, none⟩ = some (.slice (some ay) b.length c1) ∧ W'.cell? ⟨w.heap.size, 0, none⟩ = some (.int .i64 i) ∧ W'.cell? ⟨w.heap.size, 1, none⟩ = some (.int .i64 k) ∧ W'.cell? (ax.add (i.toNat * 3)) = some (.int .i64 e0) ∧ W'.cell? ⟨(ax.add (i.toNat * 3)).block, (ax.add (i.toNat * 3)).off + 1, none⟩ = some (.int .i64 e1) ∧ W'.cell? ⟨(ax.add (i.toNat * 3)).block, (ax.add (i.toNat * 3)).off + 2, none⟩ = some (.int .i64 e2) ∧ W'.cell? (ay.add (k.toNat * 3)) = some (.int .i64 d0) ∧ W'.cell? ⟨(ay.add (k.toNat * 3)).block, (ay.add (k.toNat * 3)).off + 1, none⟩ = some (.int .i64 d1) ∧ W'.cell? ⟨(ay.add (k.toNat * 3)).block, (ay.add (k.toNat * 3)).off + 2, none⟩ = some (.int .i64 d2) := fun W' hb => by
  obtain ⟨s0, s1, s2, s3, s4, s5, s6, s7, s8, s9⟩ := HS0.out
  exact ⟨(hb.cell (World.block_lt_of_cell? _ _ s0)).trans s0, (hb.cell (World.block_lt_of_cell? _ _ s1)).trans s1, (hb.cell (World.block_lt_of_cell? _ _ s2)).trans s2, (hb.cell (World.block_lt_of_cell? _ _ s3)).trans s3, (hb.cell (World.block_lt_of_cell? _ _ s4)).trans s4, (hb.cell (World.block_lt_of_cell? _ _ s5)).trans s5, (hb.cell (World.block_lt_of_cell? _ _ s6)).trans s6, (hb.cell (World.block_lt_of_cell? _ _ s7)).trans s7, (hb.cell (World.block_lt_of_cell? _ _ s8)).trans s8, (hb.cell (World.block_lt_of_cell? _ _ s9)).trans s9⟩
 have HSX := Aside0.mk hSX
 clear hSX HSF
 refine start_ (n := 20) (S := fun w' => w'.cell? ⟨g, 0, none⟩ = some (.slice (some ax) a.length c0) ∧ w'.cell? ⟨g, 1, none⟩ = some (.slice (some ay) b.length c1) ∧ w'.cell? ⟨w.heap.size, 0, none⟩ = some (.int .i64 i) ∧ w'.cell? ⟨w.heap.size, 1, none⟩ = some (.int .i64 k) ∧ w'.cell? (ax.add (i.toNat * 3)) = some (.int .i64 e0) ∧ w'.cell? ⟨(ax.add (i.toNat * 3)).block, (ax.add (i.toNat * 3)).off + 1, none⟩ = some (.int .i64 e1) ∧ w'.cell? ⟨(ax.add (i.toNat * 3)).block, (ax.add (i.toNat * 3)).off + 2, none⟩ = some (.int .i64 e2) ∧ w'.cell? (ay.add (k.toNat * 3)) = some (.int .i64 d0) ∧ w'.cell? ⟨(ay.add (k.toNat * 3)).block, (ay.add (k.toNat * 3)).off + 1, none⟩ = some (.int .i64 d1) ∧ w'.cell? ⟨(ay.add (k.toNat * 3)).block, (ay.add (k.toNat * 3)).off + 2, none⟩ = some (.int .i64 d2)) (ds := []) #[false, false, false, false, false, false, false, false, false, false, false, false, false, false, false, false, false, false, false, false] (by kernel_rfl) rfl rfl HS0.out (fun hHeld => ?_)
 refine with_tabW far1_tab far1_bits (fun HT_ HW_ => ?_)
 generalize (w.alloc (.cells #[.int .i64 i, .int .i64 k] 25)).drew = wB at BT BP HB HS0 HSX hHeld ⊢
 generalize w.heap.size = B at BP HS0 HSX hHeld ⊢
 refine pure_ (i := 0) (N := some 7) (v := ?_) (a' := ?_) #[true, false, false, false, false, false, false, false, false, false, false, false, false, false, false, false, false, false, false, false] rfl rfl (any_of HT_.out (by kernel_rfl)) (fun _ _ _ h => h) (Or.inl ⟨by rfl, ?_⟩) ?_ ?_
 rotate_left
 · intro w'
   go_simp
   with_reducible rfl
 rotate_left
 · simp only [Act.put, List.setIfInBounds_toArray, List.set_cons_zero, List.set_cons_succ, i64_w, i32_w]
   rfl
 refine pure_ (i := 1) (N := some 8) (v := ?_) (a' := ?_) #[true, true, false, false, false, false, false, false, false, false, false, false, false, false, false, false, false, false, false, false] rfl rfl (any_of HT_.out (by kernel_rfl)) (fun _ _ _ h => h) (Or.inl ⟨by rfl, ?_⟩) ?_ ?_
 rotate_left
 · intro w'
   go_simp
   with_reducible rfl
 rotate_left
 · simp only [Act.put, List.setIfInBounds_toArray, List.set_cons_zero, List.set_cons_succ, i64_w, i32_w]
   rfl
 refine pure_ (i := 2) (N := some 9) (v := ?_) (a' := ?_) #[true, true, true, false, false, false, false, false, false, false, false, false, false, false, false, false, false, false, false, false] rfl rfl (any_of HT_.out (by kernel_rfl)) (fun _ _ _ h => h) (Or.inl ⟨by rfl, ?_⟩) ?_ ?_
 rotate_left
 · intro w'
   go_simp
   with_reducible rfl
 rotate_left
 · simp only [Act.put, List.setIfInBounds_toArray, List.set_cons_zero, List.set_cons_succ, i64_w, i32_w]
   rfl
 refine take_ (i := 3) (N := some 10) (v := ?_) (a' := ?_) #[true, true, true, true, false, false, false, false, false, false, false, false, false, false, false, false, false, false, false, false] rfl rfl (take_ofW HT_.out HW_.out (by kernel_rfl)) (fun _ _ _ h => h) (Or.inl ⟨by rfl, ?_⟩) hHeld ?_ ?_
 rotate_left
 · rintro w' ⟨s0, s1, s2, s3, s4, s5, s6, s7, s8, s9⟩
   go_simp
   with_reducible rfl
 rotate_left
 · simp only [Act.put, List.setIfInBounds_toArray, List.set_cons_zero, List.set_cons_succ, i64_w, i32_w]
   rfl
 refine pure_ (i := 4) (N := some 11) (v := ?_) (a' := ?_) #[true, true, true, true, true, false, false, false, false, false, false, false, false, false, false, false, false, false, false, false] rfl rfl (any_of HT_.out (by kernel_rfl)) (fun _ _ _ h => h) (Or.inl ⟨by rfl, ?_⟩) ?_ ?_
 rotate_left
 · intro w'
   go_simp
   with_reducible rfl
 rotate_left
 · simp only [Act.put, List.setIfInBounds_toArray, List.set_cons_zero, List.set_cons_succ, i64_w, i32_w]
   rfl
 refine take_ (i := 5) (N := some 12) (v := ?_) (a' := ?_) #[true, true, true, true, true, true, false, false, false, false, false, false, false, false, false, false, false, false, false, false] rfl rfl (take_ofW HT_.out HW_.out (by kernel_rfl)) (fun _ _ _ h => h) (Or.inl ⟨by rfl, ?_⟩) hHeld ?_ ?_
 rotate_left
 · rintro w' ⟨s0, s1, s2, s3, s4, s5, s6, s7, s8, s9⟩
   go_simp
   with_reducible rfl
 rotate_left
 · simp only [Act.put, List.setIfInBounds_toArray, List.set_cons_zero, List.set_cons_succ, i64_w, i32_w]
   rfl
 refine pure_ (i := 6) (N := some 13) (v := ?_) (a' := ?_) #[true, true, true, true, true, true, true, false, false, false, false, false, false, false, false, false, false, false, false, false] rfl rfl (any_of HT_.out (by kernel_rfl)) (fun _ _ _ h => h) (Or.inl ⟨by rfl, ?_⟩) ?_ ?_
 rotate_left
 · intro w'
   go_simp
   with_reducible rfl
 rotate_left
 · simp only [Act.put, List.setIfInBounds_toArray, List.set_cons_zero, List.set_cons_succ, i64_w, i32_w]
   rfl
 refine take_ (i := 7) (N := some 14) (v := ?_) (a' := ?_) #[true, true, true, true, true, true, true, true, false, false, false, false, false, false, false, false, false, false, false, false] rfl rfl (take_ofW HT_.out HW_.out (by kernel_rfl)) (fun _ _ _ h => h) (Or.inl ⟨by rfl, ?_⟩) hHeld ?_ ?_
 rotate_left
 · rintro w' ⟨s0, s1, s2, s3, s4, s5, s6, s7, s8, s9⟩
   go_simp
   with_reducible rfl
 rotate_left
 · simp only [Act.put, List.setIfInBounds_toArray, List.set_cons_zero, List.set_cons_succ, i64_w, i32_w]
   rfl
 refine pure_ (i := 8) (N := some 15) (v := ?_) (a' := ?_) #[true, true, true, true, true, true, true, true, true, false, false, false, false, false, false, false, false, false, false, false] rfl rfl (any_of HT_.out (by kernel_rfl)) (fun _ _ _ h => h) (Or.inl ⟨by rfl, ?_⟩) ?_ ?_
 rotate_left
 · intro w'
   go_simp
   with_reducible rfl
 rotate_left
 · simp only [Act.put, List.setIfInBounds_toArray, List.set_cons_zero, List.set_cons_succ, i64_w, i32_w]
   rfl
 refine pure_ (i := 9) (N := some 16) (v := ?_) (a' := ?_) #[true, true, true, true, true, true, true, true, true, true, false, false, false, false, false, false, false, false, false, false] rfl rfl (any_of HT_.out (by kernel_rfl)) (fun _ _ _ h => h) (Or.inl ⟨by rfl, ?_⟩) ?_ ?_
 rotate_left
 · intro w'
   go_simp
   with_reducible rfl
 rotate_left
 · simp only [Act.put, List.setIfInBounds_toArray, List.set_cons_zero, List.set_cons_succ, i64_w, i32_w]
   rfl
 refine pure_ (i := 10) (N := some 17) (v := ?_) (a' := ?_) #[true, true, true, true, true, true, true, true, true, true, true, false, false, false, false, false, false, false, false, false] rfl rfl (any_of HT_.out (by kernel_rfl)) (fun _ _ _ h => h) (Or.inl ⟨by rfl, ?_⟩) ?_ ?_
 rotate_left
 · intro w'
   go_simp
   with_reducible rfl
 rotate_left
 · simp only [Act.put, List.setIfInBounds_toArray, List.set_cons_zero, List.set_cons_succ, i64_w, i32_w]
   rfl
 refine take_ (i := 11) (N := some 18) (v := ?_) (a' := ?_) #[true, true, true, true, true, true, true, true, true, true, true, true, false, false, false, false, false, false, false, false] rfl rfl (take_ofW HT_.out HW_.out (by kernel_rfl)) (fun _ _ _ h => h) (Or.inl ⟨by rfl, ?_⟩) hHeld ?_ ?_
 rotate_left
 · rintro w' ⟨s0, s1, s2, s3, s4, s5, s6, s7, s8, s9⟩
   go_simp
   with_reducible rfl
 rotate_left
 · simp only [Act.put, List.setIfInBounds_toArray, List.set_cons_zero, List.set_cons_succ, i64_w, i32_w]
   rfl
 refine pure_ (i := 12) (N := some 19) (v := ?_) (a' := ?_) #[true, true, true, true, true, true, true, true, true, true, true, true, true, false, false, false, false, false, false, false] rfl rfl (any_of HT_.out (by kernel_rfl)) (fun _ _ _ h => h) (Or.inl ⟨by rfl, ?_⟩) ?_ ?_
 rotate_left
 · intro w'
   go_simp
   with_reducible rfl
 rotate_left
 · simp only [Act.put, List.setIfInBounds_toArray, List.set_cons_zero, List.set_cons_succ, i64_w, i32_w]
   rfl
 refine take_ (i := 13) (N := some 20) (v := ?_) (a' := ?_) #[true, true, true, true, true, true, true, true, true, true, true, true, true, true, false, false, false, false, false, false] rfl rfl (take_ofW HT_.out HW_.out (by kernel_rfl)) (fun _ _ _ h => h) (Or.inl ⟨by rfl, ?_⟩) hHeld ?_ ?_
 rotate_left
 · rintro w' ⟨s0, s1, s2, s3, s4, s5, s6, s7, s8, s9⟩
   go_simp
   with_reducible rfl
 rotate_left
 · simp only [Act.put, List.setIfInBounds_toArray, List.set_cons_zero, List.set_cons_succ, i64_w, i32_w]
   rfl
 refine pure_ (i := 14) (N := some 21) (v := ?_) (a' := ?_) #[true, true, true, true, true, true, true, true, true, true, true, true, true, true, true, false, false, false, false, false] rfl rfl (any_of HT_.out (by kernel_rfl)) (fun _ _ _ h => h) (Or.inl ⟨by rfl, ?_⟩) ?_ ?_
 rotate_left
 · intro w'
   go_simp
   with_reducible rfl
 rotate_left
 · simp only [Act.put, List.setIfInBounds_toArray, List.set_cons_zero, List.set_cons_succ, i64_w, i32_w]
   rfl
 refine take_ (i := 15) (N := some 22) (v := ?_) (a' := ?_) #[true, true, true, true, true, true, true, true, true, true, true, true, true, true, true, true, false, false, false, false] rfl rfl (take_ofW HT_.out HW_.out (by kernel_rfl)) (fun _ _ _ h => h) (Or.inl ⟨by rfl, ?_⟩) hHeld ?_ ?_
 rotate_left
 · rintro w' ⟨s0, s1, s2, s3, s4, s5, s6, s7, s8, s9⟩
   go_simp
   with_reducible rfl
 rotate_left
 · simp only [Act.put, List.setIfInBounds_toArray, List.set_cons_zero, List.set_cons_succ, i64_w, i32_w]
   rfl
 refine far1 _ wB e0 e1 e2 d0 d1 d2 rfl rfl rfl HSX.out ?_
 intro g0 g1 wC hb hge hne b0 b1
 clear HT_ HW_ hHeld HSX HS0 BT BP
 have HW := Aside0.mk (below_then HB.out HB.out.size hb)
 have B0 := Aside0.mk b0
 have B1 := Aside0.mk b1
 clear hb hge hne b0 b1
 simp only [putAll, Act.put, List.setIfInBounds_toArray, List.set_cons_zero, List.set_cons_succ]
 have q0 : wC.cell? ⟨g0, 0, none⟩ = some (.int .i64 e0) := (blk_cell B0.out 0).trans rfl
 have q1 : wC.cell? ⟨g0, 1, none⟩ = some (.int .i64 e1) := (blk_cell B0.out 1).trans rfl
 have q2 : wC.cell? ⟨g0, 2, none⟩ = some (.int .i64 e2) := (blk_cell B0.out 2).trans rfl
 have q3 : wC.cell? ⟨g1, 0, none⟩ = some (.int .i64 d0) := (blk_cell B1.out 0).trans rfl
 have q4 : wC.cell? ⟨g1, 1, none⟩ = some (.int .i64 d1) := (blk_cell B1.out 1).trans rfl
 have q5 : wC.cell? ⟨g1, 2, none⟩ = some (.int .i64 d2) := (blk_cell B1.out 2).trans rfl
 have hr := HRR.out
 by_cases he : e0 = d0
 · have u1 : (e0 != d0) = false := by simp [he]
   rw [if_pos he] at hr
   have HH := Aside0.mk hr
   clear hr he HRR
   go_upto_region 4 with fail
   go_quiet ((go_at_call 70; (with_reducible refine (apart_calls _ _ _ (by have := good_in HG.out.1; have := good_in HG.out.2; simp only at *; omega) (by have := good_in HG.out.1; have := good_in HG.out.2; simp only at *; omega)).mono ?_); rintro e w' ⟨rfl, rfl⟩; exact ⟨rfl, _, rfl⟩))
   go_wp2
   go_ret
   refine ⟨?_, pw_below_drewN HW.out _⟩
   have g1 := (good_in HG.out.1).2
   have g2 := (good_in HG.out.2).2
   dsimp only at g1 g2
   have h1 := apartD_in e1 d1 1000 (by omega) (by omega)
   have h2 := apartD_in e2 d2 1000 (by omega) (by omega)
   rw [HH.out]
   first | rfl | (rw [w64' _ (by omega) (by omega)]; rfl) | (show Ending.returned (.int .i64 (wrap64 _)) = _; rw [w64' _ (by omega) (by omega)])
 · have u1 : (e0 != d0) = true := by simp [he]
   rw [if_neg he] at hr
   clear HRR
   subst hr
   clear he
   go_wp2
   go_ret
   exact ⟨rfl, HW.out⟩

set_option maxRecDepth 100000 in
/-- newTable: a table .. -/
theorem newTable_ok (A0 : Option Addr) (c0 : Nat) (a : List S59) (A1 : Option Addr) (c1 : Nat) (b : List S59) (w : World) (hr0 : Kd.C k59 w A0 a.length a) (hc0 : a.length ≤ c0) (hr1 : Kd.C k59 w A1 b.length b) (hc1 : b.length ≤ c1) (h : align_Check.f a b = some 0) :
  Calls Try.prog 45 #[.slice A0 a.length c0, .slice A1 b.length c1] w fun e w' => ∃ g, e = .returned (.tuple #[.pointer (some ⟨g, 0, none⟩), .int .i64 0]) ∧ Tb w' g a b ∧ w.heap.size ≤ g ∧ Below w.heap.size w w' := by
 have HR := rolls_of h
 have ha := HR.ha
 have hb := HR.hb
 have HR0 := Aside0.mk hr0
 have HR1 := Aside0.mk hr1
 have HC := Aside0.mk (And.intro hc0 hc1)
 have H := Aside0.mk h
 clear hr0 hr1 HR hc0 hc1 h
 go_enter Try.func45, Try.ntmps45
 go_wp2_with (go_at_call 24; refine (align_Check.calls A0 c0 a A1 c1 b 0 _ HR0.out HC.out.1 HR1.out HC.out.2 H.out).mono ?_; rintro e w1 ⟨rfl, hb⟩; have HB := Aside0.mk hb; clear hb)
 go_ret2
 have hbb := below_then HB.out HB.out.size (below_alloc (Below.refl _ _) (.cells #[.slice A0 a.length c0, .slice A1 b.length c1, .int .i64 ((a.length : Int) - 1), .int .i64 ((b.length : Int) - 1)] 92))
 exact ⟨w1.heap.size, rfl, ⟨A0, c0, A1, c1, blk_new w1 _, Kd.C_below HR0.out hbb, Kd.C_below HR1.out hbb⟩, HB.out.size, hbb⟩
set_option maxRecDepth 100000 in
/-- .. or an error. -/
theorem newTable_no (A0 : Option Addr) (c0 : Nat) (a : List S59) (A1 : Option Addr) (c1 : Nat) (b : List S59) (r : Int) (w : World) (hr0 : Kd.C k59 w A0 a.length a) (hc0 : a.length ≤ c0) (hr1 : Kd.C k59 w A1 b.length b) (hc1 : b.length ≤ c1) (h : align_Check.f a b = some r) (hr : r ≠ 0) :
  Calls Try.prog 45 #[.slice A0 a.length c0, .slice A1 b.length c1] w fun e w' => e = .returned (.tuple #[.pointer none, .int .i64 r]) ∧ Below w.heap.size w w' := by
 have hrb : (r != 0) = true := by simp [hr]
 have HR0 := Aside0.mk hr0
 have HR1 := Aside0.mk hr1
 have HC := Aside0.mk (And.intro hc0 hc1)
 have H := Aside0.mk h
 clear hr0 hr1 hc0 hc1 h hr
 go_enter Try.func45, Try.ntmps45
 go_wp2_with (go_at_call 24; refine (align_Check.calls A0 c0 a A1 c1 b r _ HR0.out HC.out.1 HR1.out HC.out.2 H.out).mono ?_; rintro e w1 ⟨rfl, hb⟩; have HB := Aside0.mk hb; clear hb)
 go_ret2
 exact ⟨rfl, HB.out⟩
def align_Distance.f (l0 l1 : List S59) (p0 p1 : Int) : Option (Int × Int) := (align_Check.f l0 l1).bind fun e => some (if e = 0 then (if hasP l0 l1 p0 p1 = true then (farD (rd_T59 l0 p0) (rd_T59 l1 p1), 0) else (0, 8)) else (0, e))
set_option maxRecDepth 100000 in
theorem align_Distance.calls (A0 : Option Addr) (c0 : Nat) (l0 : List S59) (A1 : Option Addr) (c1 : Nat) (l1 : List S59) (a2_0 a2_1 : Int) (r1 r2 : Int) (w : World) (hr0 : Kd.C k59 w A0 l0.length l0) (hc0 : l0.length ≤ c0) (hr1 : Kd.C k59 w A1 l1.length l1) (hc1 : l1.length ≤ c1) (h : align_Distance.f l0 l1 a2_0 a2_1 = some (r1, r2)) :
  Calls Try.prog 17 #[.slice A0 l0.length c0, .slice A1 l1.length c1, .agg #[.int .i64 a2_0, .int .i64 a2_1]] w fun e w' => e = .returned (.tuple #[.int .i64 r1, .int .i64 r2]) ∧ Below w.heap.size w w' := by
 have hu25 := Try.underlying25
 unfold align_Distance.f at h
 obtain ⟨e, he, h⟩ := Option.bind_eq_some_iff.1 h
 have HR0 := Aside0.mk (Kd.C_alloc hr0 (.cells #[.int .i64 a2_0, .int .i64 a2_1] 25))
 have HR1 := Aside0.mk (Kd.C_alloc hr1 (.cells #[.int .i64 a2_0, .int .i64 a2_1] 25))
 have HE := Aside0.mk he
 have HC := Aside0.mk (And.intro hc0 hc1)
 have BP := Aside0.mk (blk_new w (.cells #[.int .i64 a2_0, .int .i64 a2_1] 25))
 have h1 := Option.some.inj h
 clear h he hr0 hr1 hc0 hc1
 by_cases h0 : e = 0
 · subst h0
   rw [if_pos rfl] at h1
   have HO := Aside0.mk (rolls_of HE.out)
   cases hp : hasP l0 l1 a2_0 a2_1 with
   | true =>
    rw [hp, if_pos rfl] at h1
    obtain ⟨rfl, rfl⟩ := Prod.mk.inj h1
    have HP := Aside0.mk hp
    have HI := Aside0.mk ((hasP_iff l0 l1 a2_0 a2_1).1 hp)
    clear h1 hp
    go_enter Try.func17, Try.ntmps17
    go_wp2_with fail
    refine (newTable_ok A0 c0 l0 A1 c1 l1 _ HR0.out HC.out.1 HR1.out HC.out.2 HE.out).mono ?_
    rintro e w1 ⟨g, rfl, hT, _, hb⟩
    have HT := Aside0.mk hT
    have y0 : w1.cell? ⟨w.heap.size, 0, none⟩ = some (.int .i64 a2_0) := (blk_cell (blk_below BP.out hb) 0).trans rfl
    have y1 : w1.cell? ⟨w.heap.size, 1, none⟩ = some (.int .i64 a2_1) := (blk_cell (blk_below BP.out hb) 1).trans rfl
    have HB := Aside0.mk (below_then (below_alloc (Below.refl w.heap.size w) _) (by simp) hb)
    have BP1 := Aside0.mk (blk_below BP.out hb)
    clear hT hb
    go_wp2_with fail
    refine (has_calls g l0 l1 a2_0 a2_1 _ HT.out).mono ?_
    rintro e w2 ⟨rfl, hb⟩
    rw [HP.out]
    replace HT := Aside0.mk (HT.out.below hb)
    replace HB := Aside0.mk (below_then HB.out HB.out.size hb)
    replace BP1 := Aside0.mk (blk_below BP1.out hb)
    clear hb y0 y1
    have y0 : w2.cell? ⟨w.heap.size, 0, none⟩ = some (.int .i64 a2_0) := (blk_cell BP1.out 0).trans rfl
    have y1 : w2.cell? ⟨w.heap.size, 1, none⟩ = some (.int .i64 a2_1) := (blk_cell BP1.out 1).trans rfl
    go_wp2_with fail
    refine (far_calls g l0 l1 a2_0 a2_1 _ HT.out HO.out HI.out.1.1 HI.out.1.2 HI.out.2.1 HI.out.2.2).mono ?_
    rintro e w3 ⟨rfl, hb⟩
    replace HB := Aside0.mk (below_then HB.out HB.out.size hb)
    clear hb
    go_wp2
    go_ret2
    exact ⟨rfl, HB.out⟩
   | false =>
    rw [hp, if_neg (by simp)] at h1
    obtain ⟨rfl, rfl⟩ := Prod.mk.inj h1
    have HP := Aside0.mk hp
    clear h1 hp
    go_enter Try.func17, Try.ntmps17
    go_wp2_with fail
    refine (newTable_ok A0 c0 l0 A1 c1 l1 _ HR0.out HC.out.1 HR1.out HC.out.2 HE.out).mono ?_
    rintro e w1 ⟨g, rfl, hT, _, hb⟩
    have HT := Aside0.mk hT
    have y0 : w1.cell? ⟨w.heap.size, 0, none⟩ = some (.int .i64 a2_0) := (blk_cell (blk_below BP.out hb) 0).trans rfl
    have y1 : w1.cell? ⟨w.heap.size, 1, none⟩ = some (.int .i64 a2_1) := (blk_cell (blk_below BP.out hb) 1).trans rfl
    have HB := Aside0.mk (below_then (below_alloc (Below.refl w.heap.size w) _) (by simp) hb)
    clear hT hb
    go_wp2_with fail
    refine (has_calls g l0 l1 a2_0 a2_1 _ HT.out).mono ?_
    rintro e w2 ⟨rfl, hb⟩
    rw [HP.out]
    replace HB := Aside0.mk (below_then HB.out HB.out.size hb)
    clear hb y0 y1
    go_wp2
    go_ret2
    exact ⟨rfl, HB.out⟩
 · rw [if_neg h0] at h1
   obtain ⟨rfl, rfl⟩ := Prod.mk.inj h1
   have hb0 : (e != 0) = true := by simp [h0]
   have H0 := Aside0.mk h0
   clear h1 h0
   go_enter Try.func17, Try.ntmps17
   go_wp2_with fail
   refine (newTable_no A0 c0 l0 A1 c1 l1 e _ HR0.out HC.out.1 HR1.out HC.out.2 HE.out H0.out).mono ?_
   rintro e w1 ⟨rfl, hb⟩
   have HB := Aside0.mk (below_then (below_alloc (Below.refl w.heap.size w) _) (by simp) hb)
   clear hb
   go_wp2
   go_ret2
   exact ⟨rfl, HB.out⟩

end Go.Proofs.Ytkocigldchiifaa.H

/- The moves from a pair: an iterator. -/
namespace Go.Proofs.Ytkocigldchiifaa.H
open Go.RowKit Go.Proofs.YtkocigldchiifaaW.PrintWords Go.Proofs.YtkocigldchiifaaW.PrintLast Go.Proofs.YtkocigldchiifaaW.PrintMore
open Go.Shelf Go.Proofs.Ytkocigldchiifaa.QA
attribute [local go_sem] Oper.semAt_some
set_option linter.unusedVariables false
set_option linter.unusedSimpArgs false


def cand (i k : Int) : List S25 := [⟨i + 1, k + 1⟩, ⟨i + 1, k⟩, ⟨i, k + 1⟩]
def movesTo (a b : List S59) (i k : Int) (n : Nat) : List S25 := ((cand i k).take n).filter fun q => hasP a b q.f0 q.f1
/-- The moves from a pair. -/
def movesOf (a b : List S59) (i k : Int) : List S25 := movesTo a b i k 3
theorem moves_len (a b : List S59) (i k : Int) (n : Nat) : (movesTo a b i k n).length ≤ n ∧ (movesTo a b i k n).length ≤ 3 := by
 unfold movesTo
 have h1 := List.length_filter_le (fun q : S25 => hasP a b q.f0 q.f1) ((cand i k).take n)
 have h2 : ((cand i k).take n).length ≤ n := List.length_take_le _ _
 have h3 : ((cand i k).take n).length ≤ 3 := by rw [List.length_take]; exact Nat.min_le_right _ _
 omega
theorem moves_pre (a b : List S59) (i k : Int) (n : Nat) (h : n ≤ 3) : movesTo a b i k n <+: movesOf a b i k := by
 unfold movesOf movesTo
 refine List.IsPrefix.filter _ ?_
 exact List.take_prefix_take_left h
/-- What a cell's slice lies in. -/
def ptrAt (W : World) (B : Nat) : Option Nat := match W.cell? ⟨B, 0, none⟩ with | some v => v.ownBlock | none => none
/-- What the body of a loop over moves keeps. -/
structure KpM (n₀ Bt B : Nat) (W W' : World) : Prop where
 below : Below n₀ W W'
 tb : ∀ (cs : Array Value) (t : TypeId) (fz : Nat × Nat), W.heap[Bt]? = some (Obj.cells cs t fz) → W'.heap[Bt]? = some (Obj.cells cs t fz)
 rows : ∀ (g : Nat) (cs : Array Value), W.heap[g]? = some (Obj.cells cs 25 (0, 0)) → ptrAt W B ≠ some g → W'.heap[g]? = some (Obj.cells cs 25 (0, 0))
 ptr : ∀ g, ptrAt W' B = some g → ptrAt W B = some g ∨ W.heap.size ≤ g
theorem KpM.trans' {n₀ Bt B : Nat} {X Y Z : World} (h : KpM n₀ Bt B X Y) (k : KpM n₀ Bt B Y Z) : KpM n₀ Bt B X Z :=
 ⟨h.below.trans k.below, fun cs t fz hg => k.tb cs t fz (h.tb cs t fz hg), fun g cs hg hp => k.rows g cs (h.rows g cs hg hp) (fun e => by
   rcases h.ptr g e with h1 | h1
   · exact hp h1
   · have := blk_lt hg; omega), fun g e => by
   rcases k.ptr g e with h1 | h1
   · exact h.ptr g h1
   · exact .inr (Nat.le_trans h.below.size h1)⟩
theorem KpM.putObj {n₀ Bt B : Nat} {w : World} (hn : n₀ ≤ w.heap.size) (hB : B < w.heap.size) (W : World) (l : Nat) (o o' : Obj) (hl : w.heap.size ≤ l) (h : W.heap[l]? = some o) (hc : o.isCells = false) (hw : o.isWalk = false) : KpM n₀ Bt B W (W.putObj l o') := by
 have hfar : ∀ (g : Nat) (cs : Array Value) (t : TypeId) (fz : Nat × Nat), W.heap[g]? = some (Obj.cells cs t fz) → (W.putObj l o').heap[g]? = some (Obj.cells cs t fz) := fun g cs t fz hg => by
  rw [World.putObj_heap_other (fun e => by subst e; rw [h] at hg; cases hg; cases hc)]; exact hg
 have hp : ptrAt (W.putObj l o') B = ptrAt W B := by
  unfold ptrAt World.cell?
  simp only
  rw [World.putObj_heap_other (by omega)]
 exact ⟨belowK_b (w := w) hn W l o o' hl h hc hw, fun cs t fz hg => hfar _ cs t fz hg, fun g cs hg _ => hfar g cs 25 (0, 0) hg, fun g e => .inl (hp ▸ e)⟩
theorem ptr_below {W W' : World} {B : Nat} (hb : Below W.heap.size W W') (hB : B < W.heap.size) : ptrAt W' B = ptrAt W B := by
 unfold ptrAt
 rw [hb.cell (p := ⟨B, 0, none⟩) hB]

theorem moves_step0 {n₀ Bt B l : Nat} {cs ct : Array Value} {tt : TypeId} {W wr w2 : World} (h0 : Below n₀ W wr) (hb : Below wr.heap.size wr w2) (hB : B < wr.heap.size ∧ n₀ ≤ wr.heap.size) (hp : ptrAt wr B ≠ some l) (h1 : wr.heap[l]? = some (.cells cs 25 (0, 0))) (h2 : wr.heap[Bt]? = some (.cells ct tt (0, 0))) :
  w2.heap[l]? = some (.cells cs 25 (0, 0)) ∧ w2.heap[Bt]? = some (.cells ct tt (0, 0)) ∧ Below n₀ W w2 ∧ ptrAt w2 B ≠ some l :=
 ⟨blk_below h1 hb, blk_below h2 hb, h0.trans (hb.mono hB.2), by rw [ptr_below hb hB.1]; exact hp⟩
theorem moves_step {n₀ Bt B l : Nat} {cs ct : Array Value} {tt : TypeId} {W wr w2 W3 : World} (h0 : Below n₀ W wr) (hb : Below wr.heap.size wr w2) (hk : KpM n₀ Bt B w2 W3) (hB : B < wr.heap.size ∧ n₀ ≤ wr.heap.size) (hp : ptrAt wr B ≠ some l) (h1 : wr.heap[l]? = some (.cells cs 25 (0, 0))) (h2 : wr.heap[Bt]? = some (.cells ct tt (0, 0))) :
  W3.heap[l]? = some (.cells cs 25 (0, 0)) ∧ W3.heap[Bt]? = some (.cells ct tt (0, 0)) ∧ Below n₀ W W3 ∧ ptrAt W3 B ≠ some l := by
 obtain ⟨k1, k2, k3, k4⟩ := moves_step0 h0 hb hB hp h1 h2
 refine ⟨hk.rows _ _ k1 k4, hk.tb _ _ _ k2, k3.trans hk.below, fun e => ?_⟩
 rcases hk.ptr _ e with h | h
 · exact k4 h
 · have := blk_lt k1; omega

set_option maxRecDepth 100000 in
/-- (*table).moves: its arguments are boxed, the function value captures the boxes. -/
theorem moves_in (n : Nat) (g : Nat) (i k : Int) (w : World) :
    CallsIn Fence.wide n Try.prog 52 #[.pointer (some ⟨g, 0, none⟩), .agg #[.int .i64 i, .int .i64 k]] w fun e w' =>
      e = .returned (.func (.func 72) #[] #[.pointer (some ⟨w.heap.size + 1, 0, none⟩), .pointer (some ⟨w.heap.size, 0, none⟩)]) ∧
      w' = (w.alloc (.cells #[.pointer (some ⟨g, 0, none⟩)] 80)).alloc (.cells #[.int .i64 i, .int .i64 k] 25) := by
  have hu25 := Try.underlying25
  refine callsIn_of_wp Try.func52 rfl trivial ?_ rfl
  simp only [Try.ntmps52, List.size_toArray, List.length_cons, List.length_nil, Nat.reduceAdd, Nat.reduceSub, Array.replicate_succ, Array.replicate_zero, List.push_toArray, List.append_toArray, List.nil_append, List.cons_append]
  gi_wp2
  go_ret
  exact ⟨rfl, rfl⟩

set_option maxHeartbeats 4000000 in
set_option maxRecDepth 100000 in
/-- (*table).moves$1 -/
theorem moves1_in (n : Nat) (hn : 1 ≤ n) (lp Bp Bt B g n₀ : Nat) (a b : List S59) (i k : Int) (J Jx : List S25 → World → Prop)
    (hY : ∀ pre x W, pre ++ [x] <+: movesOf a b i k → J pre W → pre.length < 3 → YieldAt Fence.wide (n - 1) Try.prog lp #[.agg #[.int .i64 x.f0, .int .i64 x.f1]] W fun e W' =>
      (e = .returned (.bool true) ∧ J (pre ++ [x]) W' ∧ KpM n₀ Bt B W W') ∨ (e = .returned (.bool false) ∧ Jx (pre ++ [x]) W'))
    (W : World) (hJ : AbidesFrom W.heap.size J)
    (hp0 : W.cell? ⟨Bp, 0, none⟩ = some (.int .i64 i)) (hp1 : W.cell? ⟨Bp, 1, none⟩ = some (.int .i64 k)) (htb : W.heap[Bt]? = some (.cells #[.pointer (some ⟨g, 0, none⟩)] 80 (0, 0)))
    (hT : ∀ W', Below n₀ W W' → Tb W' g a b) (hn0 : n₀ ≤ W.heap.size) (hB : B < W.heap.size) (hptr : ptrAt W B = none) (hi : 0 ≤ i ∧ i ≤ 1000) (hk : 0 ≤ k ∧ k ≤ 1000) (h0 : J [] W) :
    CallsIn Fence.wide n Try.prog 72 #[.func (.yield lp) #[] #[], .pointer (some ⟨Bp, 0, none⟩), .pointer (some ⟨Bt, 0, none⟩)] W fun e W' => (∃ v, e = .returned v) ∧
      ((∃ ys, ys = movesOf a b i k ∧ J ys W') ∨ (∃ pre, pre <+: movesOf a b i k ∧ Jx pre W')) := by
  have HY := Aside0.mk hY
  have HJ := Aside0.mk hJ
  have HT := Aside0.mk hT
  have HTB := Aside0.mk htb
  have HP := Aside0.mk (And.intro hB (And.intro hptr hn0))
  have HJ0 := Aside0.mk h0
  have hu25 := Try.underlying25
  clear hY hJ hT htb hB hptr hn0 h0
  refine callsIn_of_wp Try.func72 rfl trivial ?_ rfl
  simp only [Try.ntmps72, List.size_toArray, List.length_cons, List.length_nil, Nat.reduceAdd, Nat.reduceSub, Array.replicate_succ, Array.replicate_zero, List.push_toArray, List.append_toArray, List.nil_append, List.cons_append]
  gi_wp2
  have BL := Aside0.mk (blk_new W (.cells #[.int .i64 (i + 1), .int .i64 (k + 1), .int .i64 (i + 1), .int .i64 k, .int .i64 i, .int .i64 (k + 1)] 25))
  have hbb := below_alloc (Below.refl W.heap.size W) (.cells #[.int .i64 (i + 1), .int .i64 (k + 1), .int .i64 (i + 1), .int .i64 k, .int .i64 i, .int .i64 (k + 1)] 25)
  have HJ1 := Aside0.mk (HJ.out _ _ _ none HJ0.out (grown_of_below hbb none) (fun r e => by cases e))
  have HT1 := Aside0.mk (blk_below HTB.out hbb)
  have HPP := Aside0.mk (show ptrAt (W.alloc (.cells #[.int .i64 (i + 1), .int .i64 (k + 1), .int .i64 (i + 1), .int .i64 k, .int .i64 i, .int .i64 (k + 1)] 25)) B ≠ some W.heap.size by rw [ptr_below hbb HP.out.1, HP.out.2.1]; simp)
  have HBB := Aside0.mk (hbb.mono HP.out.2.2)
  clear hbb
  gi_loopw [27] (fun s27 wr => ∃ m : Nat, m ≤ 3 ∧ s27 = .int .i64 m ∧ Aside0 (J (movesTo a b i k m) wr) ∧ Aside0 (wr.heap[W.heap.size]? = some (.cells #[.int .i64 (i + 1), .int .i64 (k + 1), .int .i64 (i + 1), .int .i64 k, .int .i64 i, .int .i64 (k + 1)] 25 (0, 0))) ∧ Aside0 (wr.heap[Bt]? = some (.cells #[.pointer (some ⟨g, 0, none⟩)] 80 (0, 0))) ∧ Aside0 (Below n₀ W wr) ∧ Aside0 (ptrAt wr B ≠ some W.heap.size)) (fun s27 _ => 3 - (intOf s27).toNat)
  case atStart => exact ⟨0, by omega, rfl, HJ1, BL, HT1, HBB, HPP⟩
  case round =>
    clear HJ1 BL HT1 HBB HPP
    obtain ⟨m, hm, rfl, HJ1, BL, HT1, HBB, HPP⟩ := hrel
    have hz := HBB.out.size
    have hltB := blk_lt BL.out
    have hltT := blk_lt HT1.out
    have hltb : B < wr.heap.size ∧ n₀ ≤ wr.heap.size := ⟨by have := HP.out.1; omega, by have := HP.out.2.2; omega⟩
    have hg : Tb wr g a b := HT.out _ (HBB.out)
    have HG := Aside0.mk hg
    clear hg
    by_cases hm0 : m = 0
    · subst hm0
      have hc0 : wr.cell? ⟨W.heap.size, 0, none⟩ = some (.int .i64 (i + 1)) := (blk_cell BL.out 0).trans rfl
      have hc1 : wr.cell? ⟨W.heap.size, 1, none⟩ = some (.int .i64 (k + 1)) := (blk_cell BL.out 1).trans rfl
      have hct : wr.cell? ⟨Bt, 0, none⟩ = some (.pointer (some ⟨g, 0, none⟩)) := (blk_cell HT1.out 0).trans rfl
      have hs : movesTo a b i k 1 = movesTo a b i k 0 ++ (if hasP a b (i + 1) (k + 1) = true then [⟨i + 1, k + 1⟩] else []) := by
        simp only [movesTo, cand]
        simp [List.filter_cons]
      have hl := (moves_len a b i k 0).1
      have HS := Aside0.mk hs
      have HL := Aside0.mk hl
      clear hs hl
      have hcall := fun X => has_calls g a b (i + 1) (k + 1) (wr.alloc (.cells #[.int .i64 (i + 1), .int .i64 (k + 1)] 25)) X
      replace hcall := hcall (HG.out.below (below_alloc (Below.refl _ _) _))
      generalize hq : hasP a b (i + 1) (k + 1) = q at hcall
      have HC := Aside0.mk hcall
      have HQ := Aside0.mk hq
      clear hcall hq
      cases q with
      | true =>
        gi_wp2_with (refine ⟨trivial, ?_⟩; gi_at_call 46; refine (callsIn_wide.2 HC.out).mono ?_; rintro e w2 ⟨rfl, hb2⟩; have HB2 := Aside0.mk hb2; have h60 := pw_cell_below hb2 (a := ⟨wr.heap.size, 0, none⟩) (v := .int .i64 (i + 1)) (by simp); have h61 := pw_cell_below hb2 (a := ⟨wr.heap.size, 1, none⟩) (v := .int .i64 (k + 1)) (by simp); clear hb2; obtain ⟨fn, tmps, assign, body, hy, hR⟩ := HY.out (movesTo a b i k 0) ⟨i + 1, k + 1⟩ w2 (by have hm := moves_pre a b i k 1 (by omega); rw [HS.out, if_pos HQ.out] at hm; exact hm) (HJ.out _ _ _ none (HJ.out _ _ _ none HJ1.out (World.grownBy_alloc _ _ none) (fun r e => by cases e)) (grown_of_below HB2.out none) (fun r e => by cases e)) (by have := HL.out; omega))
        refine hR.mono ?_
        rintro e W3 (⟨rfl, hJ3, hk3⟩ | ⟨rfl, hJx3⟩)
        · obtain ⟨k1, k2, k3, k4⟩ := moves_step HBB.out (below_then (below_alloc (Below.refl _ _) _) (by simp) HB2.out) hk3 hltb HPP.out BL.out HT1.out
          gi_wp2
          go_roundw
          case rel =>
            refine ⟨1, by omega, by go_num, ⟨?_⟩, ⟨k1⟩, ⟨k2⟩, ⟨k3⟩, ⟨k4⟩⟩
            rw [HS.out, if_pos HQ.out]
            exact hJ3
          case measure => simp [intOf]
        · gi_wp2
          refine bodyPost_ret (results_none rfl _ _ _) rfl ?_
          refine ⟨⟨_, rfl⟩, .inr ⟨_, ?_, hJx3⟩⟩
          have hm := moves_pre a b i k 1 (by omega)
          rw [HS.out, if_pos HQ.out] at hm
          exact hm
      | false =>
        gi_wp2_with (refine ⟨trivial, ?_⟩; gi_at_call 46; refine (callsIn_wide.2 HC.out).mono ?_; rintro e w2 ⟨rfl, hb2⟩; have HB2 := Aside0.mk hb2; clear hb2)
        refine ⟨fun _ h => (by cases h), ?_⟩
        gi_wp2
        go_roundw
        case rel =>
          obtain ⟨k1, k2, k3, k4⟩ := moves_step0 HBB.out (below_then (below_alloc (Below.refl _ _) _) (by simp) HB2.out) hltb HPP.out BL.out HT1.out
          refine ⟨1, by omega, by go_num, ⟨?_⟩, ⟨k1⟩, ⟨k2⟩, ⟨k3⟩, ⟨k4⟩⟩
          rw [HS.out, if_neg (by rw [HQ.out]; decide), List.append_nil]
          exact HJ.out _ _ _ none (HJ.out _ _ _ none HJ1.out (World.grownBy_alloc _ _ none) (fun r e => by cases e)) (grown_of_below HB2.out none) (fun r e => by cases e)
        case measure => simp [intOf]
    by_cases hm1 : m = 1
    · subst hm1
      have hc0 : wr.cell? ⟨W.heap.size, 2, none⟩ = some (.int .i64 (i + 1)) := (blk_cell BL.out 2).trans rfl
      have hc1 : wr.cell? ⟨W.heap.size, 3, none⟩ = some (.int .i64 (k)) := (blk_cell BL.out 3).trans rfl
      have hct : wr.cell? ⟨Bt, 0, none⟩ = some (.pointer (some ⟨g, 0, none⟩)) := (blk_cell HT1.out 0).trans rfl
      have hs : movesTo a b i k 2 = movesTo a b i k 1 ++ (if hasP a b (i + 1) (k) = true then [⟨i + 1, k⟩] else []) := by
        simp only [movesTo, cand]
        simp [List.filter_cons]; split <;> simp
      have hl := (moves_len a b i k 1).1
      have HS := Aside0.mk hs
      have HL := Aside0.mk hl
      clear hs hl
      have hcall := fun X => has_calls g a b (i + 1) (k) (wr.alloc (.cells #[.int .i64 (i + 1), .int .i64 (k)] 25)) X
      replace hcall := hcall (HG.out.below (below_alloc (Below.refl _ _) _))
      generalize hq : hasP a b (i + 1) (k) = q at hcall
      have HC := Aside0.mk hcall
      have HQ := Aside0.mk hq
      clear hcall hq
      cases q with
      | true =>
        gi_wp2_with (refine ⟨trivial, ?_⟩; gi_at_call 46; refine (callsIn_wide.2 HC.out).mono ?_; rintro e w2 ⟨rfl, hb2⟩; have HB2 := Aside0.mk hb2; have h60 := pw_cell_below hb2 (a := ⟨wr.heap.size, 0, none⟩) (v := .int .i64 (i + 1)) (by simp); have h61 := pw_cell_below hb2 (a := ⟨wr.heap.size, 1, none⟩) (v := .int .i64 (k)) (by simp); clear hb2; obtain ⟨fn, tmps, assign, body, hy, hR⟩ := HY.out (movesTo a b i k 1) ⟨i + 1, k⟩ w2 (by have hm := moves_pre a b i k 2 (by omega); rw [HS.out, if_pos HQ.out] at hm; exact hm) (HJ.out _ _ _ none (HJ.out _ _ _ none HJ1.out (World.grownBy_alloc _ _ none) (fun r e => by cases e)) (grown_of_below HB2.out none) (fun r e => by cases e)) (by have := HL.out; omega))
        refine hR.mono ?_
        rintro e W3 (⟨rfl, hJ3, hk3⟩ | ⟨rfl, hJx3⟩)
        · obtain ⟨k1, k2, k3, k4⟩ := moves_step HBB.out (below_then (below_alloc (Below.refl _ _) _) (by simp) HB2.out) hk3 hltb HPP.out BL.out HT1.out
          gi_wp2
          go_roundw
          case rel =>
            refine ⟨2, by omega, by go_num, ⟨?_⟩, ⟨k1⟩, ⟨k2⟩, ⟨k3⟩, ⟨k4⟩⟩
            rw [HS.out, if_pos HQ.out]
            exact hJ3
          case measure => simp [intOf]
        · gi_wp2
          refine bodyPost_ret (results_none rfl _ _ _) rfl ?_
          refine ⟨⟨_, rfl⟩, .inr ⟨_, ?_, hJx3⟩⟩
          have hm := moves_pre a b i k 2 (by omega)
          rw [HS.out, if_pos HQ.out] at hm
          exact hm
      | false =>
        gi_wp2_with (refine ⟨trivial, ?_⟩; gi_at_call 46; refine (callsIn_wide.2 HC.out).mono ?_; rintro e w2 ⟨rfl, hb2⟩; have HB2 := Aside0.mk hb2; clear hb2)
        refine ⟨fun _ h => (by cases h), ?_⟩
        gi_wp2
        go_roundw
        case rel =>
          obtain ⟨k1, k2, k3, k4⟩ := moves_step0 HBB.out (below_then (below_alloc (Below.refl _ _) _) (by simp) HB2.out) hltb HPP.out BL.out HT1.out
          refine ⟨2, by omega, by go_num, ⟨?_⟩, ⟨k1⟩, ⟨k2⟩, ⟨k3⟩, ⟨k4⟩⟩
          rw [HS.out, if_neg (by rw [HQ.out]; decide), List.append_nil]
          exact HJ.out _ _ _ none (HJ.out _ _ _ none HJ1.out (World.grownBy_alloc _ _ none) (fun r e => by cases e)) (grown_of_below HB2.out none) (fun r e => by cases e)
        case measure => simp [intOf]
    by_cases hm2 : m = 2
    · subst hm2
      have hc0 : wr.cell? ⟨W.heap.size, 4, none⟩ = some (.int .i64 (i)) := (blk_cell BL.out 4).trans rfl
      have hc1 : wr.cell? ⟨W.heap.size, 5, none⟩ = some (.int .i64 (k + 1)) := (blk_cell BL.out 5).trans rfl
      have hct : wr.cell? ⟨Bt, 0, none⟩ = some (.pointer (some ⟨g, 0, none⟩)) := (blk_cell HT1.out 0).trans rfl
      have hs : movesTo a b i k 3 = movesTo a b i k 2 ++ (if hasP a b (i) (k + 1) = true then [⟨i, k + 1⟩] else []) := by
        simp only [movesTo, cand]
        simp [List.filter_cons]; split <;> split <;> simp
      have hl := (moves_len a b i k 2).1
      have HS := Aside0.mk hs
      have HL := Aside0.mk hl
      clear hs hl
      have hcall := fun X => has_calls g a b (i) (k + 1) (wr.alloc (.cells #[.int .i64 (i), .int .i64 (k + 1)] 25)) X
      replace hcall := hcall (HG.out.below (below_alloc (Below.refl _ _) _))
      generalize hq : hasP a b (i) (k + 1) = q at hcall
      have HC := Aside0.mk hcall
      have HQ := Aside0.mk hq
      clear hcall hq
      cases q with
      | true =>
        gi_wp2_with (refine ⟨trivial, ?_⟩; gi_at_call 46; refine (callsIn_wide.2 HC.out).mono ?_; rintro e w2 ⟨rfl, hb2⟩; have HB2 := Aside0.mk hb2; have h60 := pw_cell_below hb2 (a := ⟨wr.heap.size, 0, none⟩) (v := .int .i64 (i)) (by simp); have h61 := pw_cell_below hb2 (a := ⟨wr.heap.size, 1, none⟩) (v := .int .i64 (k + 1)) (by simp); clear hb2; obtain ⟨fn, tmps, assign, body, hy, hR⟩ := HY.out (movesTo a b i k 2) ⟨i, k + 1⟩ w2 (by have hm := moves_pre a b i k 3 (by omega); rw [HS.out, if_pos HQ.out] at hm; exact hm) (HJ.out _ _ _ none (HJ.out _ _ _ none HJ1.out (World.grownBy_alloc _ _ none) (fun r e => by cases e)) (grown_of_below HB2.out none) (fun r e => by cases e)) (by have := HL.out; omega))
        refine hR.mono ?_
        rintro e W3 (⟨rfl, hJ3, hk3⟩ | ⟨rfl, hJx3⟩)
        · obtain ⟨k1, k2, k3, k4⟩ := moves_step HBB.out (below_then (below_alloc (Below.refl _ _) _) (by simp) HB2.out) hk3 hltb HPP.out BL.out HT1.out
          gi_wp2
          go_roundw
          case rel =>
            refine ⟨3, by omega, by go_num, ⟨?_⟩, ⟨k1⟩, ⟨k2⟩, ⟨k3⟩, ⟨k4⟩⟩
            rw [HS.out, if_pos HQ.out]
            exact hJ3
          case measure => simp [intOf]
        · gi_wp2
          refine bodyPost_ret (results_none rfl _ _ _) rfl ?_
          refine ⟨⟨_, rfl⟩, .inr ⟨_, ?_, hJx3⟩⟩
          have hm := moves_pre a b i k 3 (by omega)
          rw [HS.out, if_pos HQ.out] at hm
          exact hm
      | false =>
        gi_wp2_with (refine ⟨trivial, ?_⟩; gi_at_call 46; refine (callsIn_wide.2 HC.out).mono ?_; rintro e w2 ⟨rfl, hb2⟩; have HB2 := Aside0.mk hb2; clear hb2)
        refine ⟨fun _ h => (by cases h), ?_⟩
        gi_wp2
        go_roundw
        case rel =>
          obtain ⟨k1, k2, k3, k4⟩ := moves_step0 HBB.out (below_then (below_alloc (Below.refl _ _) _) (by simp) HB2.out) hltb HPP.out BL.out HT1.out
          refine ⟨3, by omega, by go_num, ⟨?_⟩, ⟨k1⟩, ⟨k2⟩, ⟨k3⟩, ⟨k4⟩⟩
          rw [HS.out, if_neg (by rw [HQ.out]; decide), List.append_nil]
          exact HJ.out _ _ _ none (HJ.out _ _ _ none HJ1.out (World.grownBy_alloc _ _ none) (fun r e => by cases e)) (grown_of_below HB2.out none) (fun r e => by cases e)
        case measure => simp [intOf]
    obtain rfl : m = 3 := by omega
    gi_wp2
    go_end0
    exact ⟨⟨_, rfl⟩, .inl ⟨_, rfl, HJ1.out⟩⟩

end Go.Proofs.Ytkocigldchiifaa.H

/- A map whose keys are pairs of numbers, read as a function. -/
namespace Go.Proofs.Ytkocigldchiifaa.H
open Go.RowKit Go.Proofs.YtkocigldchiifaaW.PrintWords Go.Proofs.YtkocigldchiifaaW.PrintLast Go.Proofs.YtkocigldchiifaaW.PrintMore
open Go.Proofs.Ytkocigldchiifaa.QA
set_option linter.unusedVariables false
set_option linter.unusedSimpArgs false

theorem wide25 : (match Try.prog.underlying 25 with | some (.array _ _) | some (.struct _) => true | _ => false) = true := by rw [Try.underlying25]
set_option maxRecDepth 100000
theorem row25 : (25 : TypeId) < Try.prog.types.size := of_decide_eq_true (by kernel_rfl)
theorem laid7 : laidOutB Try.prog = true := by kernel_rfl
theorem law25 : WideMaps.KeyLaw Try.prog 25 := deep_law_laid laid7 (m := 2) (by omega) row25 (by kernel_rfl) wide25
theorem keyed25 : Maps.Keyed Try.prog 25 := Maps.Keyed.of_law law25
/-- A pair as a key. -/
def pv (i k : Int) : Value := .agg #[.int .i64 i, .int .i64 k]
def inr (i k : Int) : Prop := (-1 ≤ i ∧ i ≤ 1000) ∧ (-1 ≤ k ∧ k ≤ 1000)
theorem keyT25 : Try.prog.keyType 25 = true := by kernel_rfl
theorem cells25 : Try.prog.cellsOf 25 = 2 := by kernel_rfl
theorem wf_of (x : Int) (h : -1 ≤ x ∧ x ≤ 1000) : (Lit.int .i64 x).wf = true := by
 have e1 : IntKind.i64.min = -9223372036854775808 := by decide
 have e2 : IntKind.i64.max = 9223372036854775807 := by decide
 simp [Lit.wf, e1, e2]
 omega
theorem key_some (i k : Int) (h : inr i k) : ∃ l, keyOf Try.prog 25 (pv i k) = some l := by
 have h3 : Try.prog.underlying 3 = some (.int .i64) := Try.underlying3
 have w1 := wf_of i h.1
 have w2 := wf_of k h.2
 obtain ⟨m, hm⟩ : ∃ m, Try.prog.types.size = m + 1 := ⟨_, (by kernel_rfl : Try.prog.types.size = (Try.prog.types.size - 1) + 1)⟩
 have c3 : Try.prog.cellsOf 3 = 1 := by kernel_rfl
 unfold keyOf pv
 rw [Try.underlying25, hm]
 simp [keyT25, Value.formed, Try.underlying25, cells25, Program.keyLits, h3, w1, w2, c3, Value.cells]

/-- How elements are laid and read. -/
structure Elem (E : Type) where
 enc : E → Value
 R : Value → Option (DataW Unit × List MemPlace)
 dat : E → DataW Unit
 fwd : ∀ e, R (enc e) = some (dat e, [])
 back : ∀ v e ps, R v = some (dat e, ps) → v = enc e
def RI : Value → Option (DataW Unit × List MemPlace)
 | .int .i64 a => some (.lit (.int .i64 a), [])
 | _ => none
def RP : Value → Option (DataW Unit × List MemPlace)
 | .agg cs => match cs.toList with
  | [.int .i64 a, .int .i64 b] => some (.agg [.lit (.int .i64 a), .lit (.int .i64 b)], [])
  | _ => none
 | _ => none
def eI : Elem Int := ⟨fun a => .int .i64 a, RI, fun a => .lit (.int .i64 a), fun _ => rfl, fun v e ps h => by
 unfold RI at h
 split at h
 · simp at h; rw [h.1]
 · cases h⟩
def eP : Elem S25 := ⟨fun a => pv a.f0 a.f1, RP, fun a => .agg [.lit (.int .i64 a.f0), .lit (.int .i64 a.f1)], fun _ => rfl, fun v e ps h => by
 unfold RP at h
 split at h
 · rename_i cs
   split at h
   · rename_i hcs
     simp at h
     unfold pv
     rw [← h.1.1, ← h.1.2]
     congr 1
     exact Array.ext' hcs
   · cases h
 · cases h⟩
section
variable {E : Type} {X : Elem E}
/-- Block b is a map of at most n entries that reads as f. -/
def MapF (X : Elem E) (w : World) (b n : Nat) (f : Int → Int → Option E) : Prop :=
 ∃ D : DataW Unit, Maps.IsMap D ∧ w.ownsMap Try.prog 25 X.R b n D ∧ ∀ i k, inr i k → ∀ l, keyOf Try.prog 25 (pv i k) = some l → Maps.has D l = (f i k).isSome ∧ ∀ e, f i k = some e → ∀ z, D.atKey l z = X.dat e
def upd (f : Int → Int → Option E) (i k : Int) (e : E) : Int → Int → Option E := fun a b => if a = i ∧ b = k then some e else f a b
theorem MapF.made (w : World) : MapF X (w.alloc (.map #[] 0)) w.heap.size 0 (fun _ _ => none) :=
 ⟨.map [], ⟨[], rfl⟩, World.ownsMap_made w Try.prog 25 X.R, fun i k _ l _ => ⟨rfl, fun e h => by cases h⟩⟩
theorem MapF.same {w w' : World} {b n : Nat} {f : Int → Int → Option E} (h : MapF X w b n f) (he : w'.heap[b]? = w.heap[b]?) : MapF X w' b n f := by
 obtain ⟨D, h1, ⟨es, clock, hb, h2⟩, h3⟩ := h
 exact ⟨D, h1, ⟨es, clock, he.trans hb, h2⟩, h3⟩
theorem MapF.lt {w : World} {b n : Nat} {f : Int → Int → Option E} (h : MapF X w b n f) : b < w.heap.size := by
 obtain ⟨D, h1, h2, h3⟩ := h
 exact h2.lt
theorem MapF.below {w w' : World} {b n : Nat} {f : Int → Int → Option E} (h : MapF X w b n f) (hb : Below w.heap.size w w') : MapF X w' b n f := h.same (hb.block _ h.lt)
theorem MapF.mono {w : World} {b n n' : Nat} {f : Int → Int → Option E} (h : MapF X w b n f) (hn : n ≤ n') : MapF X w b n' f := by
 obtain ⟨D, h1, h2, h3⟩ := h
 exact ⟨D, h1, h2.mono hn, h3⟩
theorem MapF.look {w : World} {b n : Nat} {f : Int → Int → Option E} {t et : TypeId} {z : E} (h : MapF X w b n f) (ht : Try.prog.underlying t = some (.map 25 et)) (hz : (zeroValue et).run Try.prog w = .ok (X.enc z) w) {i k : Int} (hi : inr i k) :
  (Instr.lookup t (.map (some b)) (pv i k) false).run Try.prog w = .ok (X.enc ((f i k).getD z)) w := by
 obtain ⟨D, h1, h2, h3⟩ := h
 obtain ⟨l, hl⟩ := key_some i k hi
 obtain ⟨v, ps, hrun, hv⟩ := h2.lookup keyed25 ht hz (X.fwd z) hl
 obtain ⟨h4, h5⟩ := h3 i k hi l hl
 cases hf : f i k with
 | none =>
  rw [hf] at h4
  rw [Maps.atKey_of_not_has h4] at hv
  rw [hrun, X.back v z ps hv]
  rfl
 | some e =>
  rw [h5 e hf] at hv
  rw [hrun, X.back v e ps hv]
  rfl
theorem MapF.look_ok {w : World} {b n : Nat} {f : Int → Int → Option E} {t et : TypeId} {z : E} (h : MapF X w b n f) (ht : Try.prog.underlying t = some (.map 25 et)) (hz : (zeroValue et).run Try.prog w = .ok (X.enc z) w) {i k : Int} (hi : inr i k) :
  (Instr.lookup t (.map (some b)) (pv i k) true).run Try.prog w = .ok (.tuple #[X.enc ((f i k).getD z), .bool (f i k).isSome]) w := by
 obtain ⟨D, h1, h2, h3⟩ := h
 obtain ⟨l, hl⟩ := key_some i k hi
 obtain ⟨v, ps, hrun, hv⟩ := h2.look_ok keyed25 ht hz (X.fwd z) hl
 obtain ⟨h4, h5⟩ := h3 i k hi l hl
 rw [h4] at hrun
 cases hf : f i k with
 | none =>
  rw [hf] at h4 hrun
  rw [Maps.atKey_of_not_has h4] at hv
  rw [hrun, X.back v z ps hv]
  rfl
 | some e =>
  rw [hf] at hrun
  rw [h5 e hf] at hv
  rw [hrun, X.back v e ps hv]
  rfl
theorem MapF.put {w : World} {b n : Nat} {f : Int → Int → Option E} {t et : TypeId} (h : MapF X w b n f) (ht : Try.prog.underlying t = some (.map 25 et)) (hn : n < maxLen) {i k : Int} (hi : inr i k) (e : E) :
  ∃ w', (Instr.mapUpdate t (.map (some b)) (pv i k) (X.enc e)).run Try.prog w = .ok () w' ∧ MapF X w' b (n + 1) (upd f i k e) ∧ w.grownBy w' (some b) := by
 obtain ⟨D, h1, h2, h3⟩ := h
 obtain ⟨l, hl⟩ := key_some i k hi
 obtain ⟨w', hrun, h4, h5⟩ := h2.update keyed25 ht hn hl (X.fwd e)
 refine ⟨w', hrun, ⟨_, h1.put _ _, h4, fun a c ha l' hl' => ?_⟩, h5⟩
 by_cases he : a = i ∧ c = k
 · obtain ⟨rfl, rfl⟩ := he
   obtain rfl : l' = l := Option.some.inj (hl'.symm.trans hl)
   refine ⟨?_, fun e' h' z => ?_⟩
   · rw [Maps.has_put_same h1 (keyed25.key hl')]
     simp [upd]
   · rw [Maps.atKey_put_same h1 (keyed25.key hl')]
     simp [upd] at h'
     rw [h']
 · have hne : l' ≠ l := fun e => he (by
     subst e
     have := keyed25.inj hl' hl
     unfold pv at this
     simp at this
     exact this)
   obtain ⟨h6, h7⟩ := h3 a c ha l' hl'
   refine ⟨?_, fun e' h' z => ?_⟩
   · rw [Maps.has_put_other hne, h6]
     simp [upd, he]
   · rw [Maps.atKey_put_other hne]
     simp [upd, he] at h'
     exact h7 e' h' z
end
theorem und87 : Try.prog.underlying 87 = some (.map 25 3) := by kernel_rfl
theorem und100 : Try.prog.underlying 100 = some (.map 25 25) := by kernel_rfl
theorem zero3 (w : World) : (zeroValue 3).run Try.prog w = .ok (.int .i64 0) w := by kernel_rfl
theorem zero25 (w : World) : (zeroValue 25).run Try.prog w = .ok (pv 0 0) w := by kernel_rfl
end Go.Proofs.Ytkocigldchiifaa.H

/- The smallest one of two numbers; the moves as an iterator. -/
namespace Go.Proofs.Ytkocigldchiifaa.H
open Go.RowKit Go.Proofs.YtkocigldchiifaaW.PrintWords Go.Proofs.YtkocigldchiifaaW.PrintLast Go.Proofs.YtkocigldchiifaaW.PrintMore
open Go.Shelf Go.Proofs.Ytkocigldchiifaa.QA
attribute [local go_sem] Oper.semAt_some
set_option linter.unusedVariables false
set_option linter.unusedSimpArgs false


section
attribute [local go_sem] max2_int min2_int max_two min_two max_three min_three max_four min_four
set_option maxRecDepth 100000 in
/-- slices.Min of two numbers. -/
theorem min2_calls (g c : Nat) (x y : Int) (w : World) (h0 : w.cell? ⟨g, 0, none⟩ = some (.int .i64 x)) (h1 : w.cell? ⟨g, 1, none⟩ = some (.int .i64 y)) :
  Calls Try.prog 77 #[.slice (some ⟨g, 0, none⟩) 2 2] w fun e w' => e = .returned (.int .i64 (min x y)) ∧ w' = w := by
 have HC := Aside0.mk (And.intro h0 h1)
 go_enter Try.func77, Try.ntmps77
 go_wp2
 go_loopw [3, 4] (fun s3 s4 wr => wr = w ∧ ((s3 = .int .i64 x ∧ s4 = .int .i64 1) ∨ (s3 = .int .i64 (min x y) ∧ s4 = .int .i64 2))) (fun s3 s4 _ => 2 - (intOf s4).toNat)
 case atStart => exact ⟨rfl, .inl ⟨rfl, rfl⟩⟩
 case round =>
  obtain ⟨rfl, (⟨rfl, rfl⟩ | ⟨rfl, rfl⟩)⟩ := hrel
  · go_wp2
    refine ⟨⟨trivial, .inr ⟨?_, rfl⟩⟩, by simp [intOf]⟩
    congr 1
    split <;> omega
  · go_wp2
    go_ret
    exact ⟨rfl, rfl⟩
end
theorem lowest_calls (g : Nat) (x y : Int) (w : World) (h0 : w.cell? ⟨g, 0, none⟩ = some (.int .i64 x)) (h1 : w.cell? ⟨g, 1, none⟩ = some (.int .i64 y)) :
  Calls Try.prog 65 #[.slice (some ⟨g, 0, none⟩) 2 2] w fun e w' => e = .returned (.int .i64 (min x y)) ∧ w' = w := by
 go_enter Try.func65, Try.ntmps65
 go_wp2_with (go_at_call 77; refine (min2_calls g 2 x y w h0 h1).mono ?_; rintro e w1 ⟨rfl, rfl⟩)
 go_ret
 exact ⟨rfl, rfl⟩
/-- The moves from a pair, as an iterator. -/
theorem moves_stops (n : Nat) (hn : 1 ≤ n) (Bp Bt B g n₀ : Nat) (a b : List S59) (i k : Int) (w : World)
    (hp0 : w.cell? ⟨Bp, 0, none⟩ = some (.int .i64 i)) (hp1 : w.cell? ⟨Bp, 1, none⟩ = some (.int .i64 k)) (htb : w.heap[Bt]? = some (.cells #[.pointer (some ⟨g, 0, none⟩)] 80 (0, 0)))
    (hT : ∀ W', Below n₀ w W' → Tb W' g a b) (hn0 : n₀ ≤ w.heap.size) (hB : B < w.heap.size) (hptr : ptrAt w B = none) (hi : 0 ≤ i ∧ i ≤ 1000) (hk : 0 ≤ k ∧ k ≤ 1000) :
    SeqStopsK Fence.wide n Try.prog 72 #[.pointer (some ⟨Bp, 0, none⟩), .pointer (some ⟨Bt, 0, none⟩)] (fun x : {q : S25 // q ∈ movesOf a b i k} => #[Value.agg #[.int .i64 x.1.f0, .int .i64 x.1.f1]]) (KpM n₀ Bt B) (fun ys => ys.map (·.1) = movesOf a b i k) (fun pre => pre.map (·.1) <+: movesOf a b i k) 3 w := by
  intro lp J Jx W hW hJ hJx hY h0
  have hab : ∀ {J : List {q : S25 // q ∈ movesOf a b i k} → World → Prop}, AbidesFrom W.heap.size J → AbidesFrom W.heap.size (fun (pre : List S25) X => ∃ ys : List {q : S25 // q ∈ movesOf a b i k}, ys.map (·.1) = pre ∧ J ys X) := fun hJ s A B row hs hg hr => by
    obtain ⟨ys, h1, h2⟩ := hs
    exact ⟨ys, h1, hJ ys A B row h2 hg hr⟩
  refine (moves1_in n hn lp Bp Bt B g n₀ a b i k (fun pre X => ∃ ys : List {q : S25 // q ∈ movesOf a b i k}, ys.map (·.1) = pre ∧ J ys X) (fun pre X => ∃ ys : List {q : S25 // q ∈ movesOf a b i k}, ys.map (·.1) = pre ∧ Jx ys X) ?_ W (hab hJ) (pw_cell_below hW hp0) (pw_cell_below hW hp1) (blk_below htb hW)
    (fun W' hb => hT W' ((hW.mono hn0).trans hb)) (Nat.le_trans hn0 hW.size) (Nat.lt_of_lt_of_le hB hW.size) ((ptr_below hW hB).trans hptr) hi hk ⟨[], rfl, h0⟩).mono ?_
  · rintro pre x X hp ⟨ys, hys, hJ1⟩ hlen
    have hx : x ∈ movesOf a b i k := hp.subset (by simp)
    obtain ⟨fn, tmps, assign, body, hy, hR⟩ := hY ys ⟨x, hx⟩ X hJ1 (by rw [← hys] at hlen; simpa using hlen)
    refine ⟨fn, tmps, assign, body, hy, hR.mono ?_⟩
    rintro e W' (⟨h1, h2, h3⟩ | ⟨h1, h2⟩)
    · exact .inl ⟨h1, ⟨ys ++ [⟨x, hx⟩], by simp [hys], h2⟩, h3⟩
    · exact .inr ⟨h1, ys ++ [⟨x, hx⟩], by simp [hys], h2⟩
  · rintro e W' ⟨hv, (⟨pre, h1, ys, h2, h3⟩ | ⟨pre, h1, ys, h2, h3⟩)⟩
    · exact ⟨hv, .inl ⟨ys, h2.trans h1, h3⟩⟩
    · exact ⟨hv, .inr ⟨ys, (by show List.map _ ys <+: _; rw [h2]; exact h1), h3⟩⟩

end Go.Proofs.Ytkocigldchiifaa.H
