/- align.Check: the error of two rolls. -/
import Derived.Test.YtkocigldchiifaaQA3
import Derived.Test.YtkocigldchiifaaH0
namespace Go.Proofs.Ytkocigldchiifaa.H
open Go.RowKit Go.Proofs.YtkocigldchiifaaW.PrintWords Go.Proofs.YtkocigldchiifaaW.PrintLast Go.Proofs.YtkocigldchiifaaW.PrintMore
open Go.Shelf Go.Proofs.Ytkocigldchiifaa.QA
set_option linter.unusedVariables false
set_option linter.unusedSimpArgs false

def isIn (a x b : Int) : Bool := decide (a ≤ x) && decide (x ≤ b)
theorem between_f (a x b : Int) : align_between.f a x b = some (isIn a x b) := by
  unfold align_between.f isIn
  by_cases h : a ≤ x <;> simp [h]
theorem bt_calls (a x b : Int) (w : World) : Calls Try.prog 69 #[.int .i64 a, .int .i64 x, .int .i64 b] w fun e w' => e = .returned (.bool (isIn a x b)) ∧ ∃ n, w' = w.drewN n :=
  (align_between.calls a x b _ w (between_f a x b)).mono fun _ _ h => ⟨h.1, h.2.out⟩
def goodB (x : S59) : Bool := isIn 1 x.f0 88 && (isIn 0 x.f1 1000 && isIn 0 x.f2 1000)

set_option maxRecDepth 100000 in
/-- (align.Event).good -/
theorem good_calls (x : S59) (w : World) : Calls Try.prog 75 #[.agg #[.int .i64 x.f0, .int .i64 x.f1, .int .i64 x.f2]] w fun e w' => e = .returned (.bool (goodB x)) ∧ Below w.heap.size w w' := by
  have hu59 := Try.underlying59
  obtain ⟨r, hr⟩ : ∃ r, r = goodB x := ⟨_, rfl⟩
  rw [← hr]
  unfold goodB at hr
  cases h0 : isIn 1 x.f0 88 <;> cases h1 : isIn 0 x.f1 1000 <;> cases h2 : isIn 0 x.f2 1000
  all_goals
    rw [h0, h1, h2] at hr
    subst hr
    go_enter Try.func75, Try.ntmps75
    go_wp2_with (go_at_call 69; refine (bt_calls _ _ _ _).mono ?_; rintro e w' ⟨rfl, ⟨nd, rfl⟩⟩)
    go_ret
    exact ⟨rfl, by repeat (first | exact Below.refl _ _ | apply pw_below_drewN | apply below_alloc)⟩
/-- (align.Roll).check$1 -/
theorem check1 (l : List S59) (w : World) : Pred 74 #[] (fun x : S59 => Value.agg #[.int .i64 x.f0, .int .i64 x.f1, .int .i64 x.f2]) (· ∈ l) (fun x => !goodB x) w := by
  intro W x _ _
  have hu59 := Try.underlying59
  go_enter Try.func74, Try.ntmps74
  go_wp2_with (go_at_call 75; refine (good_calls x _).mono ?_; rintro e w' ⟨rfl, hb⟩)
  go_ret
  exact ⟨rfl, below_then (below_alloc (Below.refl _ _) _) (by simp) hb⟩
/-- The error of a roll. -/
def chk (l : List S59) : Int := if l.length = 0 then 4 else if 30 < l.length then 5 else if l.any (fun x => !goodB x) = true then 3 else 0

set_option maxRecDepth 100000 in
/-- (align.Roll).check -/
theorem roll_check (A : Option Addr) (c : Nat) (l : List S59) (w : World) (hr : Kd.C k59 w A l.length l) (hc : l.length ≤ c) :
    Calls Try.prog 53 #[.slice A l.length c] w fun e w' => e = .returned (.int .i64 (chk l)) ∧ Below w.heap.size w w' := by
  have hm := Kd.C_max hr
  have HR := Aside0.mk hr
  obtain ⟨r, hr'⟩ : ∃ r, r = chk l := ⟨_, rfl⟩
  rw [← hr']
  have HE := Aside0.mk hr'
  clear hr hr'
  by_cases h0 : l.length = 0
  · have h0b : ((l.length : Int) == 0) = true := by simp [h0]
    have e : r = 4 := by rw [HE.out]; unfold chk; rw [if_pos h0]
    subst e
    clear h0
    go_enter Try.func53, Try.ntmps53
    go_wp2
    go_ret
    exact ⟨rfl, Below.refl _ _⟩
  · have h0b : ((l.length : Int) == 0) = false := by simp only [beq_eq_false_iff_ne, ne_eq]; omega
    by_cases h6 : 30 < l.length
    · have h6b : decide (30 < (l.length : Int)) = true := decide_eq_true (by omega)
      have e : r = 5 := by rw [HE.out]; unfold chk; rw [if_neg h0, if_pos h6]
      subst e
      clear h0 h6
      go_enter Try.func53, Try.ntmps53
      go_wp2
      go_ret
      exact ⟨rfl, Below.refl _ _⟩
    · have h6b : decide (30 < (l.length : Int)) = false := decide_eq_false (by omega)
      have hcall := fun W (hb : Below w.heap.size w W) => conEvents 74 #[] (fun x => !goodB x) (enters_of Try.func74 (by kernel_rfl) rfl) A c l W (check1 l W) (Kd.C_below HR.out hb) hc
      have e : r = if l.any (fun x => !goodB x) = true then 3 else 0 := by rw [HE.out]; unfold chk; rw [if_neg h0, if_neg h6]
      clear h0 h6
      cases hq : l.any (fun x => !goodB x) with
      | true =>
        rw [hq] at hcall e
        have HC := Aside0.mk hcall
        clear hcall hq
        subst e
        go_enter Try.func53, Try.ntmps53
        go_wp2_with (go_at_call 73; refine (HC.out _ (Below.refl _ _)).mono ?_; rintro e w' ⟨rfl, hb⟩)
        go_ret
        exact ⟨rfl, hb⟩
      | false =>
        rw [hq] at hcall e
        have HC := Aside0.mk hcall
        clear hcall hq
        subst e
        go_enter Try.func53, Try.ntmps53
        go_wp2_with (go_at_call 73; refine (HC.out _ (Below.refl _ _)).mono ?_; rintro e w' ⟨rfl, hb⟩)
        go_ret
        exact ⟨rfl, hb⟩

def align_Check.f (l0 l1 : List S59) : Option Int := some (if chk l0 = 0 then chk l1 else chk l0)
theorem two_cells {W : World} {g t : Nat} {v0 v1 : Value} (h : W.heap[g]? = some (.cells #[v0, v1] t (0, 0))) : W.cell? ⟨g, 0, none⟩ = some v0 ∧ W.cell? ⟨g, 1, none⟩ = some v1 := ⟨(blk_cell h 0).trans rfl, (blk_cell h 1).trans rfl⟩
set_option maxHeartbeats 4000000 in
set_option maxRecDepth 100000 in
theorem align_Check.calls (A0 : Option Addr) (c0 : Nat) (l0 : List S59) (A1 : Option Addr) (c1 : Nat) (l1 : List S59) (r : Int) (w : World) (hr0 : Kd.C k59 w A0 l0.length l0) (hc0 : l0.length ≤ c0) (hr1 : Kd.C k59 w A1 l1.length l1) (hc1 : l1.length ≤ c1) (h : align_Check.f l0 l1 = some r) :
    Calls Try.prog 24 #[.slice A0 l0.length c0, .slice A1 l1.length c1] w fun e w' => e = .returned (.int .i64 r) ∧ Below w.heap.size w w' := by
  unfold align_Check.f at h
  have HE := Aside0.mk (Option.some.inj h)
  have HR0 := Aside0.mk hr0
  have HR1 := Aside0.mk hr1
  have HC := Aside0.mk (And.intro hc0 hc1)
  clear h hr0 hr1 hc0 hc1
  have BL := Aside0.mk (blk_new w (.cells #[.slice A0 l0.length c0, .slice A1 l1.length c1] 23))
  go_enter Try.func24, Try.ntmps24
  go_wp2
  go_loopg [13] 2 (fun gg s13 wr => ∃ k : Nat, s13 = .int .i64 k ∧ Aside0 (k ≤ 2 ∧ 2 - k ≤ gg) ∧ Aside0 ((1 ≤ k → chk l0 = 0) ∧ (2 ≤ k → chk l1 = 0)) ∧ Aside0 (Below (w.alloc (.cells #[.slice A0 l0.length c0, .slice A1 l1.length c1] 23)).heap.size (w.alloc (.cells #[.slice A0 l0.length c0, .slice A1 l1.length c1] 23)) wr))
  case atStart => exact ⟨0, rfl, ⟨by omega, by omega⟩, ⟨fun h => by omega, fun h => by omega⟩, ⟨Below.refl _ _⟩⟩
  case round =>
    obtain ⟨k, rfl, HK, HZ, HB⟩ := hrel
    have HBW := Aside0.mk (below_then (below_alloc (Below.refl w.heap.size w) _) (by simp) HB.out)
    obtain ⟨y0, y1⟩ := two_cells (blk_below BL.out HB.out)
    by_cases k0 : k = 0
    · subst k0
      by_cases hz : chk l0 = 0
      · have z1 : (chk l0 != 0) = false := by simp [hz]
        have HZ0 := Aside0.mk hz
        clear hz
        go_wp2_with (go_at_call 53; refine (roll_check A0 c0 l0 _ (Kd.C_below HR0.out HBW.out) HC.out.1).mono ?_; rintro e w' ⟨rfl, hb⟩; have HN := Aside0.mk hb; clear hb)
        go_roundg 1
        case measure => have := HK.out; omega
        case rel => exact ⟨1, by first | rfl | simp, ⟨by omega, by omega⟩, ⟨fun _ => HZ0.out, fun h => by omega⟩, ⟨below_then HB.out HB.out.size HN.out⟩⟩
      · have z1 : (chk l0 != 0) = true := by simp [hz]
        have er : r = chk l0 := by rw [← HE.out, if_neg hz]
        subst er
        clear hz HE
        go_wp2_with (go_at_call 53; refine (roll_check A0 c0 l0 _ (Kd.C_below HR0.out HBW.out) HC.out.1).mono ?_; rintro e w' ⟨rfl, hb⟩; have HN := Aside0.mk hb; clear hb)
        go_ret
        exact ⟨rfl, below_then HBW.out HBW.out.size HN.out⟩
    · by_cases k1 : k = 1
      · subst k1
        have e0 := HZ.out.1 (by omega)
        have er : r = chk l1 := by rw [← HE.out, if_pos e0]
        subst er
        clear e0 HE k0
        by_cases hz : chk l1 = 0
        · have z1 : (chk l1 != 0) = false := by simp [hz]
          have HZ0 := Aside0.mk hz
          clear hz
          go_wp2_with (go_at_call 53; refine (roll_check A1 c1 l1 _ (Kd.C_below HR1.out HBW.out) HC.out.2).mono ?_; rintro e w' ⟨rfl, hb⟩; have HN := Aside0.mk hb; clear hb)
          go_roundg 0
          case measure => have := HK.out; omega
          case rel => exact ⟨2, by first | rfl | simp, ⟨by omega, by omega⟩, ⟨fun _ => HZ.out.1 (by omega), fun _ => HZ0.out⟩, ⟨below_then HB.out HB.out.size HN.out⟩⟩
        · have z1 : (chk l1 != 0) = true := by simp [hz]
          clear hz
          go_wp2_with (go_at_call 53; refine (roll_check A1 c1 l1 _ (Kd.C_below HR1.out HBW.out) HC.out.2).mono ?_; rintro e w' ⟨rfl, hb⟩; have HN := Aside0.mk hb; clear hb)
          go_ret
          exact ⟨rfl, below_then HBW.out HBW.out.size HN.out⟩
      · have k2 : k = 2 := by have := HK.out; omega
        subst k2
        have er : r = 0 := by rw [← HE.out, if_pos (HZ.out.1 (by omega)), HZ.out.2 (by omega)]
        subst er
        clear k0 k1
        go_wp2
        go_ret
        exact ⟨rfl, HBW.out⟩

end Go.Proofs.Ytkocigldchiifaa.H
