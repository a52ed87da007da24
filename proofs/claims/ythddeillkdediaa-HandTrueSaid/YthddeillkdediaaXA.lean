/- Texts H0, H1, H2, P0 of this chapter, one behind the other. -/
import Derived.Carry
import Derived.LoopIn
import Derived.LoopNIn
import Derived.Maps.AppendAt
import Derived.OwnWalkIn
import Derived.RangeFuncBound
import Derived.RangeFuncBox
import Derived.RangeFuncCalls
import Derived.RangeFuncLeaves
import Derived.RangeFuncNested
import Derived.RangeFuncWrites
import Derived.Shelf.Abstract
import Derived.Shelf.RegionOpen
import Derived.TacticsInMore
import Derived.WalkKit
import Derived.Test.YthddeillkdediaaQA0
import Derived.Test.YthddeillkdediaaQA2

/- slices.ContainsFunc over whatever predicate. -/
namespace Go.Proofs.Ythddeillkdediaa.H
open Go.RowKit Go.Proofs.YthddeillkdediaaW.PrintWords Go.Proofs.YthddeillkdediaaW.PrintLast Go.Proofs.YthddeillkdediaaW.PrintMore
open Go.Shelf Go.Proofs.Ythddeillkdediaa.QA
set_option linter.unusedVariables false
set_option linter.unusedSimpArgs false

/-- A function value that answers a Bool: at each x of D, in each world in which all that lay in w lies unturned, it hands back p x, and turns nothing that lay. -/
def Pred {α : Type} (g : Nat) (lb : Array Value) (enc : α → Value) (D : α → Prop) (p : α → Bool) (w : World) : Prop :=
  ∀ (W : World) (x : α), D x → Below w.heap.size w W → Calls Try.prog g (#[enc x] ++ lb) W fun e w' => e = .returned (.bool (p x)) ∧ Below W.heap.size W w'

theorem any_hit {α : Type} (p : α → Bool) (l : List α) (k : Nat) (z : α) (h : k < l.length) (hk : p (l.getD k z) = true) : decide (0 ≤ (k : Int)) = l.any p := by
  rw [List.any_eq_true.2 ⟨l.getD k z, by rw [List.getD_eq_getElem?_getD, List.getElem?_eq_getElem h]; exact List.getElem_mem h, hk⟩]
  exact decide_eq_true (by omega)
theorem any_miss {α : Type} (p : α → Bool) (l : List α) (z : α) (h : ∀ j, j < l.length → p (l.getD j z) = false) : decide (0 ≤ (-1 : Int)) = l.any p := by
  rw [show l.any p = false from List.any_eq_false.2 (fun x hx => by
    obtain ⟨j, hj, rfl⟩ := List.getElem_of_mem hx
    have := h j hj
    rw [List.getD_eq_getElem?_getD, List.getElem?_eq_getElem hj] at this
    simpa using this)]
  rfl


set_option maxHeartbeats 2000000 in
theorem conInts_index (g : Nat) (lb : Array Value) (p : Int → Bool) (eg : ∀ args w, (callFunc g args).run Try.prog w = .ok (.enter g args) w) (A : Option Addr) (c : Nat) (l : List (Int)) (w : World)
    (hp : Pred g lb (Value.int .i64) (· ∈ l) p w) (hr : Kd.C (Kd.int .i64) w A l.length l) (hc : l.length ≤ c) :
    Calls Try.prog 85 #[.slice A l.length c, .func (.func g) #[] lb] w fun e w' => ∃ n : Int, e = .returned (.int .i64 n) ∧ Aside0 (decide (0 ≤ n) = l.any p) ∧ Below w.heap.size w w' := by
  have hm := Kd.C_max hr
  have HR := Aside0.mk hr
  clear hr
  go_enter Try.func85, Try.ntmps85
  go_wp2
  go_loopg [5, 8] l.length (fun gg _ s8 wr => ∃ kk : Nat, kk ≤ l.length ∧ l.length - kk ≤ gg ∧ s8 = .int .i64 kk ∧ Aside0 (Below w.heap.size w wr) ∧ Aside0 (∀ j, j < kk → p (l.getD j 0) = false))
  case atStart => exact ⟨0, Nat.zero_le _, by omega, rfl, ⟨Below.refl _ w⟩, ⟨fun j hj => absurd hj (Nat.not_lt_zero _)⟩⟩
  case round =>
    obtain ⟨kk, hkk, hg, rfl, BW, HA⟩ := hrel
    by_cases hlt : kk < l.length
    · have hltz : (kk : Int) < (l.length : Int) := by omega
      obtain ⟨ad, e1, hx⟩ := Kd.at_int HR.out kk (by omega) hltz
      cases e1
      rw [Int.toNat_natCast] at hx
      replace hx := (BW.out.cell (World.block_lt_of_cell? w _ hx)).trans hx
      have hcall := hp wr (rd l kk) (by unfold rd; rw [Int.toNat_natCast, List.getD_eq_getElem?_getD, List.getElem?_eq_getElem hlt]; exact List.getElem_mem hlt) BW.out
      clear hp
      generalize hy : rd l kk = y at hx hcall
      have hy' : p (l.getD kk 0) = p y := by rw [← hy]; rfl
      clear hy
      have B := Aside0.mk hy'
      clear hy'
      cases hq : p y with
      | true =>
        rw [hq] at hcall
        go_wp2_with (go_at_fn g; refine hcall.mono ?_; rintro e w' ⟨rfl, hb'⟩)
        go_ret
        exact ⟨_, rfl, ⟨any_hit p l kk 0 hlt (B.out.trans hq)⟩, below_then BW.out BW.out.size hb'⟩
      | false =>
        rw [hq] at hcall
        go_wp2_with (go_at_fn g; refine hcall.mono ?_; rintro e w' ⟨rfl, hb'⟩)
        go_roundg (l.length - (kk + 1))
        case measure => omega
        case rel =>
          refine ⟨kk + 1, by omega, by omega, by go_num, ⟨below_then BW.out BW.out.size hb'⟩, ⟨fun j hj => ?_⟩⟩
          by_cases e : j = kk
          · subst e
            rw [B.out]; exact hq
          · exact HA.out j (by omega)
    · have hltz : ¬ (kk : Int) < (l.length : Int) := by omega
      have : kk = l.length := by omega
      subst this
      go_wp2
      go_ret
      exact ⟨_, rfl, ⟨any_miss p l 0 HA.out⟩, BW.out⟩

/-- slices.ContainsFunc. -/
theorem conInts (g : Nat) (lb : Array Value) (p : Int → Bool) (eg : ∀ args w, (callFunc g args).run Try.prog w = .ok (.enter g args) w) (A : Option Addr) (c : Nat) (l : List (Int)) (w : World)
    (hp : Pred g lb (Value.int .i64) (· ∈ l) p w) (hr : Kd.C (Kd.int .i64) w A l.length l) (hc : l.length ≤ c) :
    Calls Try.prog 74 #[.slice A l.length c, .func (.func g) #[] lb] w fun e w' => e = .returned (.bool (l.any p)) ∧ Below w.heap.size w w' := by
  go_enter Try.func74, Try.ntmps74
  go_wp2_with (go_at_call 85; refine (conInts_index g lb p eg A c l _ hp hr hc).mono ?_; rintro e w' ⟨n, rfl, HN, hb⟩)
  go_ret
  exact ⟨by rw [← HN.out]; rfl, hb⟩

end Go.Proofs.Ythddeillkdediaa.H

/- hand.Check. -/
namespace Go.Proofs.Ythddeillkdediaa.H
open Go.RowKit Go.Proofs.YthddeillkdediaaW.PrintWords Go.Proofs.YthddeillkdediaaW.PrintLast Go.Proofs.YthddeillkdediaaW.PrintMore
open Go.Shelf Go.Proofs.Ythddeillkdediaa.QA
set_option linter.unusedVariables false
set_option linter.unusedSimpArgs false

def isIn (a x b : Int) : Bool := decide (a ≤ x) && decide (x ≤ b)
theorem between_f (a x b : Int) : hand_between.f a x b = some (isIn a x b) := by
  unfold hand_between.f isIn
  by_cases h : a ≤ x <;> simp [h]
theorem bt_calls (a x b : Int) (w : World) : Calls Try.prog 62 #[.int .i64 a, .int .i64 x, .int .i64 b] w fun e w' => e = .returned (.bool (isIn a x b)) ∧ ∃ n, w' = w.drewN n :=
  (hand_between.calls a x b _ w (between_f a x b)).mono fun _ _ h => ⟨h.1, h.2.out⟩
def goodB (x : Int) : Bool := isIn (-100000) x 100000
/-- (hand.sample).check$1 -/
theorem check1 (l : List Int) (w : World) : Pred 75 #[] (Value.int .i64) (· ∈ l) (fun x => !goodB x) w := by
  intro W x _ _
  go_enter Try.func75, Try.ntmps75
  go_wp2_with (go_at_call 62; refine (bt_calls _ _ _ _).mono ?_; rintro e w' ⟨rfl, ⟨nd, rfl⟩⟩)
  go_ret
  exact ⟨rfl, by repeat (first | exact Below.refl _ _ | apply pw_below_drewN | apply below_alloc)⟩
/-- The error of a sample. -/
def chk (l : List Int) : Int := if l.length = 0 then 4 else if 16 < l.length then 5 else if l.any (fun x => !goodB x) = true then 3 else 0
set_option maxRecDepth 100000 in
/-- (hand.sample).check -/
theorem sample_check (A : Option Addr) (c : Nat) (l : List Int) (w : World) (hr : Kd.C (Kd.int .i64) w A l.length l) (hc : l.length ≤ c) :
    Calls Try.prog 44 #[.slice A l.length c] w fun e w' => e = .returned (.int .i64 (chk l)) ∧ Below w.heap.size w w' := by
  have hm := Kd.C_max hr
  have HR := Aside0.mk hr
  obtain ⟨r, hr'⟩ : ∃ r, r = chk l := ⟨_, rfl⟩
  rw [← hr']
  have HE := Aside0.mk hr'
  clear hr hr'
  by_cases h0 : l.length = 0
  · have h0b : ((l.length : Int) == 0) = true := by simp [h0]
    have e : r = 4 := by rw [HE.out]; unfold chk; rw [if_pos h0]
    subst e
    clear h0
    go_enter Try.func44, Try.ntmps44
    go_wp2
    go_ret
    exact ⟨rfl, Below.refl _ _⟩
  · have h0b : ((l.length : Int) == 0) = false := by simp only [beq_eq_false_iff_ne, ne_eq]; omega
    by_cases h6 : 16 < l.length
    · have h6b : decide (16 < (l.length : Int)) = true := decide_eq_true (by omega)
      have e : r = 5 := by rw [HE.out]; unfold chk; rw [if_neg h0, if_pos h6]
      subst e
      clear h0 h6
      go_enter Try.func44, Try.ntmps44
      go_wp2
      go_ret
      exact ⟨rfl, Below.refl _ _⟩
    · have h6b : decide (16 < (l.length : Int)) = false := decide_eq_false (by omega)
      have hcall := fun W (hb : Below w.heap.size w W) => conInts 75 #[] (fun x => !goodB x) (enters_of Try.func75 (by kernel_rfl) rfl) A c l W (check1 l W) (Kd.C_below HR.out hb) hc
      have e : r = if l.any (fun x => !goodB x) = true then 3 else 0 := by rw [HE.out]; unfold chk; rw [if_neg h0, if_neg h6]
      clear h0 h6
      cases hq : l.any (fun x => !goodB x) with
      | true =>
        rw [hq] at hcall e
        have HC := Aside0.mk hcall
        clear hcall hq
        subst e
        go_enter Try.func44, Try.ntmps44
        go_wp2_with (go_at_call 74; refine (HC.out _ (Below.refl _ _)).mono ?_; rintro e w' ⟨rfl, hb⟩)
        go_ret
        exact ⟨rfl, hb⟩
      | false =>
        rw [hq] at hcall e
        have HC := Aside0.mk hcall
        clear hcall hq
        subst e
        go_enter Try.func44, Try.ntmps44
        go_wp2_with (go_at_call 74; refine (HC.out _ (Below.refl _ _)).mono ?_; rintro e w' ⟨rfl, hb⟩)
        go_ret
        exact ⟨rfl, hb⟩


def hand_Check.f (l : List Int) : Option Int := some (chk l)
theorem hand_Check.calls (A : Option Addr) (c : Nat) (l : List Int) (r : Int) (w : World) (hr : Kd.C (Kd.int .i64) w A l.length l) (hc : l.length ≤ c) (h : hand_Check.f l = some r) :
    Calls Try.prog 20 #[.slice A l.length c] w fun e w' => e = .returned (.int .i64 r) ∧ Below w.heap.size w w' := by
  obtain rfl := Option.some.inj h
  generalize hq : chk l = q
  go_enter Try.func20, Try.ntmps20
  go_wp2_with (go_at_call 44; refine (sample_check A c l _ hr hc).mono ?_; rintro e w' ⟨rfl, hb⟩; rw [hq])
  go_ret
  exact ⟨rfl, hb⟩

end Go.Proofs.Ythddeillkdediaa.H

/- The pool of samples, as an iterator. -/
namespace Go.Proofs.Ythddeillkdediaa.H
open Go.RowKit Go.Proofs.YthddeillkdediaaW.PrintWords Go.Proofs.YthddeillkdediaaW.PrintLast Go.Proofs.YthddeillkdediaaW.PrintMore
open Go.Shelf Go.Proofs.Ythddeillkdediaa.QA
attribute [local go_sem] Oper.semAt_some
set_option linter.unusedVariables false
set_option linter.unusedSimpArgs false

def Marks (n₀ : Nat) : List Deferred → World → Prop
 | [], _ => True
 | d :: ds, W => (∃ D, d = { target := .collected D, args := #[] } ∧ n₀ ≤ D ∧ W.heap[D]? = some (.deferred (some [])) ∧ ∀ d' ∈ ds, ∀ D', d' = { target := .collected D', args := #[] } → D' < D) ∧ Marks n₀ ds W
theorem Marks.mono {n₀ : Nat} : ∀ {ds : List Deferred} {W W' : World}, Marks n₀ ds W → (∀ D, n₀ ≤ D → W.heap[D]? = some (.deferred (some [])) → W'.heap[D]? = some (.deferred (some []))) → Marks n₀ ds W'
 | [], _, _, _, _ => trivial
 | d :: ds, W, W', h, hk => by
  obtain ⟨⟨D, h1, h2, h3, h4⟩, h5⟩ := h
  exact ⟨⟨D, h1, h2, hk D h2 h3, h4⟩, h5.mono hk⟩
theorem Marks.below {n₀ : Nat} {ds : List Deferred} {W W' : World} (h : Marks n₀ ds W) (hb : Below W.heap.size W W') : Marks n₀ ds W' := h.mono fun D _ hD => (hb.block _ (Array.getElem?_eq_some_iff.1 hD).1).trans hD
theorem Marks.lt {n₀ : Nat} : ∀ {ds : List Deferred} {W : World}, Marks n₀ ds W → ∀ d ∈ ds, ∀ D, d = { target := .collected D, args := #[] } → D < W.heap.size
 | [], _, _, _, hd, _, _ => absurd hd (by simp)
 | d :: ds, W, h, d', hd, D', he => by
  obtain ⟨⟨D, h1, h2, h3, h4⟩, h5⟩ := h
  rcases List.mem_cons.1 hd with rfl | hd
  · rw [h1] at he
    injection he with he
    injection he with he
    subst he
    exact (Array.getElem?_eq_some_iff.1 h3).1
  · exact h5.lt d' hd D' he
theorem Marks.cons {n₀ : Nat} {ds : List Deferred} {W W' : World} {D : Nat} (h : Marks n₀ ds W') (h0 : Marks n₀ ds W) (hD : W.heap.size ≤ D) (hn : n₀ ≤ D) (hW : W'.heap[D]? = some (.deferred (some []))) : Marks n₀ ({ target := .collected D, args := #[] } :: ds) W' :=
 ⟨⟨D, rfl, hn, hW, fun d' hd D' he => Nat.lt_of_lt_of_le (h0.lt d' hd D' he) hD⟩, h⟩
theorem Marks.mono' {n₀ : Nat} : ∀ {ds : List Deferred} {W W' : World}, Marks n₀ ds W → (∀ d ∈ ds, ∀ D, d = { target := .collected D, args := #[] } → W.heap[D]? = some (.deferred (some [])) → W'.heap[D]? = some (.deferred (some []))) → Marks n₀ ds W'
 | [], _, _, _, _ => trivial
 | d :: ds, W, W', h, hk => by
  obtain ⟨⟨D, h1, h2, h3, h4⟩, h5⟩ := h
  exact ⟨⟨D, h1, h2, hk d (List.mem_cons_self) D h1 h3, h4⟩, h5.mono' fun d' hd => hk d' (List.mem_cons_of_mem _ hd)⟩
theorem leaves_marks {F : Fence} {n : Nat} {P : Program} {fn : Func} {tmps : Array Value} {R : Ending → World → Prop} {n₀ : Nat} : ∀ (ds : List Deferred) (W : World), Marks n₀ ds W →
  (∀ W', Below n₀ W W' → (∀ (g : Nat) (o : Obj), W.heap[g]? = some o → (∀ c, o ≠ Obj.deferred c) → W'.heap[g]? = some o) → ∃ v, (results fn tmps).run P W' = .ok v W' ∧ R (.returned v) W') → LeavesInM F n P fn tmps R ds .returning W
 | [], W, _, h => h W (Below.refl _ _) (fun _ _ hg _ => hg)
 | d :: ds, W, hm, h => by
  obtain ⟨⟨D, rfl, h2, h3, h4⟩, h5⟩ := hm
  have hlt := (Array.getElem?_eq_some_iff.1 h3).1
  refine ⟨by simp, .inl ⟨D, W.putObj D (Obj.deferred none), rfl, run_takeDeferred h3, ?_⟩⟩
  have hb : Below n₀ W (W.putObj D (Obj.deferred none)) := (Below.refl n₀ W).grown (grownBy_putObj' W D (Obj.deferred none)) (by omega) (fun k e => by cases e; omega)
  refine leaves_marks ds _ ?_ (fun W' hb' hk => h W' (hb.trans hb') (fun g o hg ho => hk g o ?_ ho))
  · refine Marks.mono' h5 (fun d' hd D' he hD' => ?_)
    rw [World.putObj_heap_other (by have := h4 d' hd D' he; omega)]
    exact hD'
  · rw [World.putObj_heap_other (fun e => by subst e; rw [h3] at hg; exact ho _ (Option.some.inj hg).symm)]
    exact hg
/-- A body that ends by a return, marks and all. -/
def postR (P : Program) (fn : Func) (R : Ending → World → Prop) : Exit → Act → World → Prop
 | .ret, a, w => LeavesInM Fence.wide 3 P fn a.tmps R a.defers .returning w
 | _, _, _ => False
theorem calls_of_wp_marks {P : Program} {f : FuncId} {fn : Func} {c : Code} {args : Array Value} {w : World} {R : Ending → World → Prop}
  (hf : P.funcs[f]? = some fn) (hb : fn.body = some c) (h : c.wp P (postR P fn R) { tmps := args ++ Array.replicate (fn.ntmps - args.size) undef, defers := [] } w) : Calls P f args w R := by
 refine (callsIn_wide (n := 3)).1 (callsIn_of_wp_marks hf hb trivial ?_ rfl)
 refine wpIn_mono (wpIn_wide.2 h) fun e a w h => ?_
 cases e <;> first | exact h | exact h.elim

theorem blk_lt2 {W : World} {g : Nat} {o : Obj} (h : W.heap[g]? = some o) : g < W.heap.size := (Array.getElem?_eq_some_iff.1 h).1
theorem blk_below2 {W W' : World} (hb : Below W.heap.size W W') {g : Nat} {o : Obj} (h : W.heap[g]? = some o) : W'.heap[g]? = some o := (hb.block g (blk_lt2 h)).trans h
theorem callsIn_round {l n : Nat} {P : Program} {f : FuncId} {args : Array Value} {w : World} {R : Ending → World → Prop} (h : Calls P f args w R) : CallsIn (Fence.wide.inRound l) n P f args w R := (callsIn_wide (n := n)).2 h
/-- Of what lay in wl nothing has turned but box B, which holds v. -/
structure At1 (wl W : World) (B : Nat) (t : TypeId) (v : Value) : Prop where
 low : Below 0 wl W
 but : ∀ g, g < wl.heap.size → g ≠ B → W.heap[g]? = wl.heap[g]?
 cell : Boxed W B t v
section
variable {wl W W2 : World} {B Bt n₀ : Nat} {t : TypeId} {v u : Value}
theorem At1.start (h : Boxed wl B t v) : At1 wl wl B t v := ⟨Below.refl _ _, fun _ _ _ => rfl, h⟩
theorem At1.blk {g : Nat} {o : Obj} (h : At1 wl W B t v) (hg : wl.heap[g]? = some o) (hne : g ≠ B) : W.heap[g]? = some o := (h.but g (blk_lt2 hg) hne).trans hg
theorem At1.own {β : Type} (F : β → Value) (hB : B < wl.heap.size) : OwnFrom wl.heap.size (fun (s : β) W => At1 wl W B t (F s)) := fun s X Y row hs hg hr =>
 ⟨hs.low.grown hg (Nat.zero_le _) (fun k e => Nat.zero_le _), fun g hlt hne => (hg.block g (Nat.lt_of_lt_of_le hlt hs.low.size) (fun e => by have := (hr g e.symm).1; omega)).trans (hs.but g hlt hne),
  hs.cell.kept hg (fun e => by have := (hr B e.symm).1; omega)⟩
theorem At1.below (h : At1 wl W B t v) (hb : Below W.heap.size W W2) : At1 wl W2 B t v :=
 ⟨h.low.trans (hb.mono (Nat.zero_le _)), fun g hlt hne => (hb.block g (Nat.lt_of_lt_of_le hlt h.low.size)).trans (h.but g hlt hne), (hb.block _ h.cell.lt).trans h.cell⟩
theorem At1.set (h : At1 wl W B t v) (u : Value) : At1 wl (W.setCell ⟨B, 0, none⟩ u) B t u :=
 ⟨h.low.trans (((Below.refl 0 W).setCell (p := ⟨B, 0, none⟩) (Nat.zero_le _) u)), fun g hlt hne => by rw [Below.heap_setCell _ _ _ _ hne]; exact h.but g hlt hne, h.cell.set u⟩
theorem At1.quiet (hA : At1 wl W B t v) (hb : Below W.heap.size W W2) : KeepsFrom wl.heap.size W W2 ∧ At1 wl W2 B t v :=
 ⟨⟨hb.size, fun k o _ hk _ => blk_below2 hb hk⟩, hA.below hb⟩
end

/-- What the body of a loop over a pool keeps: the pool's box and its row of samples. -/
structure KpP (n₀ B1 B2 : Nat) (W W' : World) : Prop where
 below : Below n₀ W W'
 b1 : ∀ (cs : Array Value), W.heap[B1]? = some (Obj.cells cs 113 (0, 0)) → W'.heap[B1]? = some (Obj.cells cs 113 (0, 0))
 b2 : ∀ (cs : Array Value), W.heap[B2]? = some (Obj.cells cs 71 (0, 0)) → W'.heap[B2]? = some (Obj.cells cs 71 (0, 0))
section
variable {n₀ B1 B2 : Nat}
theorem KpP.trans' {X Y Z : World} (h : KpP n₀ B1 B2 X Y) (k : KpP n₀ B1 B2 Y Z) : KpP n₀ B1 B2 X Z :=
 ⟨h.below.trans k.below, fun cs hg => k.b1 cs (h.b1 cs hg), fun cs hg => k.b2 cs (h.b2 cs hg)⟩
theorem KpP.putObj {w : World} (hn : n₀ ≤ w.heap.size) (W : World) (l : Nat) (o o' : Obj) (hl : w.heap.size ≤ l) (h : W.heap[l]? = some o) (hc : o.isCells = false) (hw : o.isWalk = false) : KpP n₀ B1 B2 W (W.putObj l o') := by
 have hfar : ∀ (g : Nat) (cs : Array Value) (t : TypeId) (fz : Nat × Nat), W.heap[g]? = some (Obj.cells cs t fz) → (W.putObj l o').heap[g]? = some (Obj.cells cs t fz) := fun g cs t fz hg => by
  rw [World.putObj_heap_other (fun e => by subst e; rw [h] at hg; cases hg; cases hc)]; exact hg
 exact ⟨belowK_b (w := w) hn W l o o' hl h hc hw, fun cs hg => hfar _ cs _ _ hg, fun cs hg => hfar _ cs _ _ hg⟩
theorem KpP.of_below {W W' : World} (hb : Below W.heap.size W W') (hn : n₀ ≤ W.heap.size) : KpP n₀ B1 B2 W W' :=
 ⟨hb.mono hn, fun _ hg => (hb.block _ (Array.getElem?_eq_some_iff.1 hg).1).trans hg, fun _ hg => (hb.block _ (Array.getElem?_eq_some_iff.1 hg).1).trans hg⟩
/-- A box of another type is written. -/
theorem KpP.set {W : World} {B : Nat} {t : TypeId} {u v : Value} (h : Boxed W B t v) (h1 : t ≠ 113) (h2 : t ≠ 71) (hn : n₀ ≤ B) : KpP n₀ B1 B2 W (W.setCell ⟨B, 0, none⟩ u) :=
 ⟨(Below.refl n₀ W).setCell (p := ⟨B, 0, none⟩) hn u,
  fun cs hg => by rw [Below.heap_setCell _ _ _ _ (fun e => by subst e; rw [show W.heap[_]? = _ from h] at hg; injection hg with hg; injection hg with _ hg; exact h1 hg)]; exact hg,
  fun cs hg => by rw [Below.heap_setCell _ _ _ _ (fun e => by subst e; rw [show W.heap[_]? = _ from h] at hg; injection hg with hg; injection hg with _ hg; exact h2 hg)]; exact hg⟩
end
/-- Rows of samples. -/
def Rw (cs : Array Value) (ls : List (List Int)) (W : World) : Prop := ∀ (i : Nat) (hi : i < ls.length), ∃ A c, cs[i]? = some (.slice A (ls[i]).length c) ∧ Kd.C (Kd.int .i64) W A (ls[i]).length ls[i]
/-- The state of the pool's loops. -/
structure Po (J : List Int → World → Prop) (n₀ : Nat) (W : World) (Bt g m c : Nat) (cs : Array Value) (pre : List Int) (wr : World) : Prop where
 j : J pre wr
 low : Below n₀ W wr
 bt : wr.heap[Bt]? = some (.cells #[.slice (some ⟨g, 0, none⟩) m c] 113 (0, 0))
 bg : wr.heap[g]? = some (.cells cs 71 (0, 0))
section
variable {J : List Int → World → Prop} {n₀ : Nat} {W wr w2 W3 : World} {Bt g m c : Nat} {cs : Array Value} {pre pre' : List Int}
theorem Po.step (h : Po J n₀ W Bt g m c cs pre w2) (hj : J pre' W3) (hk : KpP n₀ Bt g w2 W3) : Po J n₀ W Bt g m c cs pre' W3 := ⟨hj, h.low.trans hk.below, hk.b1 _ h.bt, hk.b2 _ h.bg⟩
end
theorem flat_succ (ls : List (List Int)) {m : Nat} (h : m < ls.length) : (ls.take (m + 1)).flatten = (ls.take m).flatten ++ ls[m] := by
 rw [List.take_add_one, List.getElem?_eq_getElem h, List.flatten_append]
 simp
theorem flat_pre (ls : List (List Int)) {m j : Nat} (h : m < ls.length) : (ls.take m).flatten ++ (ls[m]).take j <+: ls.flatten := by
 have h1 : (ls.take m).flatten ++ (ls[m]).take j <+: (ls.take (m + 1)).flatten := by
  rw [flat_succ ls h]
  exact (List.prefix_append_right_inj _).2 (List.take_prefix _ _)
 refine h1.trans ?_
 conv => rhs; rw [← List.take_append_drop (m + 1) ls, List.flatten_append]
 exact List.prefix_append _ _
set_option maxHeartbeats 4000000 in
set_option maxRecDepth 100000 in
/-- hand.pool$1 -/
theorem pool1_in (n : Nat) (hn : 1 ≤ n) (lp Bt g n₀ c : Nat) (cs : Array Value) (ls : List (List Int)) (J Jx : List Int → World → Prop)
    (hY : ∀ pre x W, pre ++ [x] <+: ls.flatten → J pre W → YieldAt Fence.wide (n - 1) Try.prog lp #[.int .i64 x] W fun e W' =>
      (e = .returned (.bool true) ∧ J (pre ++ [x]) W' ∧ KpP n₀ Bt g W W') ∨ (e = .returned (.bool false) ∧ Jx (pre ++ [x]) W'))
    (W : World) (htb : W.heap[Bt]? = some (.cells #[.slice (some ⟨g, 0, none⟩) ls.length c] 113 (0, 0))) (htg : W.heap[g]? = some (.cells cs 71 (0, 0)))
    (hT : ∀ W', Below n₀ W W' → Rw cs ls W') (hl : ls.length ≤ 1000) (hs : ∀ l ∈ ls, l.length ≤ 1000000) (h0 : J [] W) :
    CallsIn Fence.wide n Try.prog 84 #[.func (.yield lp) #[] #[], .pointer (some ⟨Bt, 0, none⟩)] W fun e W' => (∃ v, e = .returned v) ∧
      ((∃ ys, ys = ls.flatten ∧ J ys W') ∨ (∃ pre, pre <+: ls.flatten ∧ Jx pre W')) := by
  have HY := Aside0.mk hY
  have HT := Aside0.mk hT
  have HL := Aside0.mk hl
  have HS := Aside0.mk hs
  have HP := Aside0.mk (show Po J n₀ W Bt g ls.length c cs [] W from ⟨h0, Below.refl _ _, htb, htg⟩)
  have ct : W.cell? ⟨Bt, 0, none⟩ = some (.slice (some ⟨g, 0, none⟩) ls.length c) := (blk_cell htb 0).trans rfl
  clear hY hT htb htg h0 hs hl
  refine callsIn_of_wp Try.func84 rfl trivial ?_ rfl
  simp only [Try.ntmps84, List.size_toArray, List.length_cons, List.length_nil, Nat.reduceAdd, Nat.reduceSub, Array.replicate_succ, Array.replicate_zero, List.push_toArray, List.append_toArray, List.nil_append, List.cons_append]
  gi_wp2
  gi_loopw [9] (fun s9 wr => ∃ m : Nat, m ≤ ls.length ∧ s9 = .int .i64 m ∧ Aside0 (Po J n₀ W Bt g ls.length c cs (ls.take m).flatten wr)) (fun s9 _ => ls.length - (intOf s9).toNat)
  case atStart => exact ⟨0, by omega, rfl, ⟨by simpa using HP.out⟩⟩
  case round =>
    clear HP ct
    obtain ⟨m, hm, rfl, HA⟩ := hrel
    by_cases hlt : m < ls.length
    · have hdec : decide ((m : Int) < (ls.length : Int)) = true := decide_eq_true (by omega)
      have hm0 : (0 : Int) ≤ (m : Int) := by omega
      have hm1 : (m : Int) < (ls.length : Int) := by omega
      obtain ⟨A, c1, hcs, -⟩ := HT.out wr HA.out.low m hlt
      have cg : wr.cell? ⟨g, m, none⟩ = some (.slice A (ls[m]).length c1) := (blk_cell HA.out.bg m).trans hcs
      have HLR := Aside0.mk (show (ls[m]).length ≤ 1000000 from HS.out _ (List.getElem_mem hlt))
      have HW := Aside0.mk (show ∀ W', Below n₀ W W' → Kd.C (Kd.int .i64) W' A (ls[m]).length ls[m] from fun W' hb => by
        obtain ⟨A', c', hcs', hC⟩ := HT.out W' hb m hlt
        rw [hcs] at hcs'
        obtain ⟨rfl, -, -⟩ := (Value.slice.injEq ..).mp (Option.some.inj hcs')
        exact hC)
      have HFS := Aside0.mk (flat_succ ls hlt)
      have HFP := Aside0.mk (fun j => flat_pre ls (j := j) hlt)
      clear hcs
      generalize ls[m] = row at cg HLR HW HFS HFP
      gi_wp2
      gi_loopw [15] (fun s15 wi => ∃ j : Nat, j ≤ row.length ∧ s15 = .int .i64 j ∧ Aside0 (Po J n₀ W Bt g ls.length c cs ((ls.take m).flatten ++ row.take j) wi)) (fun s15 _ => row.length - (intOf s15).toNat)
      case atStart => exact ⟨0, by omega, rfl, ⟨by simpa using HA.out⟩⟩
      case round =>
        clear cg HA hdec
        obtain ⟨j, hj, rfl, HA⟩ := hrel
        by_cases hlj : j < row.length
        · have hdec : decide ((j : Int) < (row.length : Int)) = true := decide_eq_true (by omega)
          have hj0 : (0 : Int) ≤ (j : Int) := by omega
          have hj1 : (j : Int) < (row.length : Int) := by omega
          obtain ⟨ad, e1, hx⟩ := Kd.at_int (HW.out _ HA.out.low) j hj0 hj1
          cases e1
          rw [Int.toNat_natCast] at hx
          have hsu : row.take (j + 1) = row.take j ++ [rd row (j : Int)] := by
           rw [List.take_add_one, List.getElem?_eq_getElem hlj]
           unfold rd
           rw [Int.toNat_natCast, List.getD_eq_getElem?_getD, List.getElem?_eq_getElem hlj]
           rfl
          have HSU := Aside0.mk hsu
          have HJ1 := Aside0.mk (show wrap64 ((j : Int) + 1) = ((j + 1 : Nat) : Int) by have := HLR.out; unfold wrap64; omega)
          clear hsu
          generalize rd row (j : Int) = x at hx HSU
          obtain ⟨fn, tmps, assign, body, hy, hRY⟩ := HY.out ((ls.take m).flatten ++ row.take j) x wr (by
            have h1 := HFP.out (j + 1)
            rw [HSU.out, ← List.append_assoc] at h1
            exact h1) HA.out.j
          gi_wp2
          refine hRY.mono ?_
          rintro e W3 (⟨rfl, hJ3, hk3⟩ | ⟨rfl, hJx3⟩)
          · have HP3 := Aside0.mk (HA.out.step hJ3 hk3)
            clear hJ3 hk3
            gi_wp2
            refine ⟨⟨j + 1, by omega, congrArg _ HJ1.out, ⟨?_⟩⟩, ?_⟩
            · rw [HSU.out, ← List.append_assoc]
              exact HP3.out
            · rw [HJ1.out]
              show row.length - (((j + 1 : Nat) : Int)).toNat < row.length - ((j : Int)).toNat
              omega
          · gi_wp2
            refine bodyPost_ret (results_none rfl _ _ _) rfl ?_
            refine ⟨⟨_, rfl⟩, .inr ⟨_, ?_, hJx3⟩⟩
            have h1 := HFP.out (j + 1)
            rw [HSU.out, ← List.append_assoc] at h1
            exact h1
        · have hdec : decide ((j : Int) < (row.length : Int)) = false := decide_eq_false (by omega)
          obtain rfl : j = row.length := by omega
          have HM1 := Aside0.mk (show wrap64 ((m : Int) + 1) = ((m + 1 : Nat) : Int) by have := HL.out; unfold wrap64; omega)
          gi_wp2
          go_roundw
          case rel =>
            refine ⟨m + 1, by omega, congrArg _ HM1.out, ⟨?_⟩⟩
            rw [HFS.out]
            have := HA.out
            rw [List.take_length] at this
            exact this
          case measure =>
            rw [HM1.out]
            show ls.length - (((m + 1 : Nat) : Int)).toNat < ls.length - ((m : Int)).toNat
            omega
    · have hdec : decide ((m : Int) < (ls.length : Int)) = false := decide_eq_false (by omega)
      obtain rfl : m = ls.length := by omega
      have HF := Aside0.mk HA.out.j
      rw [List.take_length] at HF
      gi_wp2
      go_end0
      exact ⟨⟨_, rfl⟩, .inl ⟨_, rfl, HF.out⟩⟩

end Go.Proofs.Ythddeillkdediaa.H

/- Scores, ranks and beats, as plain numbers. -/
namespace Go.Proofs.Ythddeillkdediaa.H
open Go.RowKit Go.Proofs.YthddeillkdediaaW.PrintWords Go.Proofs.YthddeillkdediaaW.PrintLast Go.Proofs.YthddeillkdediaaW.PrintMore
open Go.Shelf Go.Proofs.Ythddeillkdediaa.QA
set_option linter.unusedVariables false
set_option linter.unusedSimpArgs false

/-- 2 if a is smaller than b, 1 if both are equal, otherwise 0. -/
def scoreI (a b : Int) : Int := if a < b then 2 else if a = b then 1 else 0
theorem cmp_f (a b : Int) : cmp_Compare_int.f a b = some (if a < b then -1 else if b < a then 1 else 0) := by
 unfold cmp_Compare_int.f cmp_isNaN_int.f
 simp only [Option.bind_some, bne_self_eq_false, Bool.false_eq_true, if_false]
 by_cases h : a < b
 · simp [h]
 · by_cases h2 : a > b <;> simp [h, h2]
theorem score_f (a b : Int) : hand_score.f a b = some (scoreI a b) := by
 unfold hand_score.f
 rw [cmp_f, Option.bind_some, Option.some.injEq]
 unfold scoreI wrap64
 by_cases h : a < b
 · simp [h]
 · by_cases h2 : b < a
   · have h3 : ¬ a = b := by omega
     simp [h, h2, h3]
   · have h3 : a = b := by omega
     simp [h3]
theorem scoreI_in (a b : Int) : 0 ≤ scoreI a b ∧ scoreI a b ≤ 2 := by
 unfold scoreI
 by_cases h : a < b
 · simp [h]
 · by_cases h2 : a = b <;> simp [h, h2]
theorem scoreI_two (a b : Int) : scoreI a b + scoreI b a = 2 := by
 unfold scoreI
 by_cases h : a < b
 · have h1 : ¬ b < a := by omega
   have h2 : ¬ b = a := by omega
   simp [h, h1, h2]
 · by_cases h2 : a = b
   · subst h2; simp
   · have h1 : b < a := by omega
     have h3 : ¬ b = a := by omega
     simp [h, h1, h2]
/-- The sum of a list. -/
def sumI : List Int → Int
 | [] => 0
 | x :: l => x + sumI l
theorem sumI_append (l m : List Int) : sumI (l ++ m) = sumI l + sumI m := by
 induction l with
 | nil => simp [sumI]
 | cons x l ih => simp only [List.cons_append, sumI, ih]; omega
theorem sumI_in (l : List Int) (lo hi : Int) (h : ∀ x ∈ l, lo ≤ x ∧ x ≤ hi) : lo * l.length ≤ sumI l ∧ sumI l ≤ hi * l.length := by
 induction l with
 | nil => simp [sumI]
 | cons x l ih =>
  have h1 := h x (by simp)
  have h2 := ih (fun y hy => h y (by simp [hy]))
  simp only [sumI, List.length_cons, Int.natCast_add, Int.mul_add, Int.natCast_one, Int.mul_one]
  omega
theorem sumI_add {α : Type} (l : List α) (f g : α → Int) : sumI (l.map fun x => f x + g x) = sumI (l.map f) + sumI (l.map g) := by
 induction l with
 | nil => rfl
 | cons x l ih => simp only [List.map_cons, sumI, ih]; omega
theorem sumI_const {α : Type} (l : List α) (c : Int) : sumI (l.map fun _ => c) = c * l.length := by
 induction l with
 | nil => simp [sumI]
 | cons x l ih => simp only [List.map_cons, sumI, ih, List.length_cons, Int.natCast_add, Int.mul_add, Int.natCast_one, Int.mul_one]; omega
theorem sumI_swap {α β : Type} (l : List α) (m : List β) (f : α → β → Int) : sumI (l.map fun x => sumI (m.map fun y => f x y)) = sumI (m.map fun y => sumI (l.map fun x => f x y)) := by
 induction l with
 | nil => simp only [List.map_nil, sumI]; rw [sumI_const]; simp
 | cons x l ih =>
  simp only [List.map_cons, sumI, ih]
  rw [sumI_add]
theorem sumI_congr {α : Type} (l : List α) (f g : α → Int) (h : ∀ x ∈ l, f x = g x) : sumI (l.map f) = sumI (l.map g) := by
 rw [List.map_congr_left h]
/-- The rank of a number. -/
def rankI (l : List Int) (n : Int) : Int := 1 + sumI (l.map fun x => scoreI x n)
def ranksI (l : List Int) : List Int := l.map (rankI l)
def beatsI (a b : List Int) : Int := sumI (a.map fun x => sumI (b.map fun y => scoreI x y))
theorem take_rd (l : List Int) {i : Nat} (h : i < l.length) : l.take (i + 1) = l.take i ++ [rd l (i : Int)] := by
 rw [List.take_add_one, List.getElem?_eq_getElem h]
 unfold rd
 rw [Int.toNat_natCast, List.getD_eq_getElem?_getD, List.getElem?_eq_getElem h]
 rfl
theorem w64' (x : Int) (h1 : -9223372036854775808 ≤ x) (h2 : x ≤ 9223372036854775807) : wrap64 x = x := by unfold wrap64; omega
theorem scoresI_in (l : List Int) (n : Int) : 0 ≤ sumI (l.map fun x => scoreI x n) ∧ sumI (l.map fun x => scoreI x n) ≤ 2 * l.length := by
 have := sumI_in (l.map fun x => scoreI x n) 0 2 (fun y hy => by obtain ⟨x, _, rfl⟩ := List.mem_map.1 hy; exact scoreI_in _ _)
 rw [List.length_map] at this
 omega
theorem rank_l0 (l : List Int) (n : Int) (hl : l.length ≤ 1000000) : ∀ (k i : Nat), i ≤ l.length → l.length - i + 1 ≤ k → hand_sample_rank.l0 k n (1 + sumI ((l.take i).map fun x => scoreI x n)) l (l.length : Int) (i : Int) = some (rankI l n) := by
 intro k
 induction k with
 | zero => intro i h1 h2; omega
 | succ k ih =>
  intro i h1 h2
  unfold hand_sample_rank.l0
  by_cases hlt : i < l.length
  · rw [if_pos (by omega), if_pos (by omega), if_pos (by omega), score_f, Option.bind_some]
    have hb := scoresI_in (l.take i) n
    have hs := scoreI_in (rd l (i : Int)) n
    rw [List.length_take] at hb
    have := ih (i + 1) hlt (by omega)
    rw [take_rd l hlt, List.map_append, sumI_append] at this
    rw [w64' _ (by omega) (by omega), w64' _ (by omega) (by omega)]
    simp only [List.map_cons, List.map_nil, sumI] at this
    rw [show (1 + sumI ((l.take i).map fun x => scoreI x n) + scoreI (rd l (i : Int)) n) = 1 + (sumI ((l.take i).map fun x => scoreI x n) + (scoreI (rd l (i : Int)) n + 0)) by omega]
    exact this
  · rw [if_neg (by omega)]
    obtain rfl : i = l.length := by omega
    rw [List.take_length]
    rfl
theorem rank_f (l : List Int) (n : Int) (k : Nat) (hl : l.length ≤ 1000000) (hk : l.length + 1 ≤ k) : hand_sample_rank.f k l n = some (rankI l n) := by
 unfold hand_sample_rank.f
 have := rank_l0 l n hl k 0 (Nat.zero_le _) (by omega)
 simpa [sumI] using this
theorem rankI_in (l : List Int) (n : Int) : 1 ≤ rankI l n ∧ rankI l n ≤ 1 + 2 * l.length := by
 unfold rankI
 have := scoresI_in l n
 omega

end Go.Proofs.Ythddeillkdediaa.H
