/- Texts HG, HH, HI, HJ of this chapter, one behind the other. -/
import Derived.Carry
import Derived.Deep.DeepCutAuto
import Derived.Lib.AppendZerosOnto
import Derived.Lib.SliceRun
import Derived.Lib.Walk
import Derived.LoopIn
import Derived.LoopN
import Derived.LoopNIn
import Derived.Maps.AppendAt
import Derived.OwnWalkIn
import Derived.RangeFuncBound
import Derived.RangeFuncBox
import Derived.RangeFuncCalls
import Derived.RangeFuncLeaves
import Derived.RangeFuncNested
import Derived.RangeFuncWrites
import Derived.Shelf.Abstract
import Derived.Shelf.RegionOpen
import Derived.TacticsInMore
import Derived.WalkKit
import Derived.Test.YthddeillkdediaaXF

/- hand.ends, and what is wrong with spans. -/
namespace Go.Proofs.Ythddeillkdediaa.H
open Go.RowKit Go.Proofs.YthddeillkdediaaW.PrintWords Go.Proofs.YthddeillkdediaaW.PrintLast Go.Proofs.YthddeillkdediaaW.PrintMore
open Go.Shelf Go.Proofs.Ythddeillkdediaa.QA
set_option linter.unusedVariables false
set_option linter.unusedSimpArgs false


set_option maxHeartbeats 2000000 in
theorem conSpans_index (g : Nat) (lb : Array Value) (p : S41 → Bool) (eg : ∀ args w, (callFunc g args).run Try.prog w = .ok (.enter g args) w) (A : Option Addr) (c : Nat) (l : List (S41)) (w : World)
    (hp : Pred g lb (fun x : S41 => Value.agg #[.int .i64 x.f0, .int .i64 x.f1]) (· ∈ l) p w) (hr : Kd.C k41 w A l.length l) (hc : l.length ≤ c) :
    Calls Try.prog 82 #[.slice A l.length c, .func (.func g) #[] lb] w fun e w' => ∃ n : Int, e = .returned (.int .i64 n) ∧ Aside0 (decide (0 ≤ n) = l.any p) ∧ Below w.heap.size w w' := by
  have hm := Kd.C_max hr
  have HR := Aside0.mk hr
  clear hr
  go_enter Try.func82, Try.ntmps82
  go_wp2
  go_loopg [5, 8] l.length (fun gg _ s8 wr => ∃ kk : Nat, kk ≤ l.length ∧ l.length - kk ≤ gg ∧ s8 = .int .i64 kk ∧ Aside0 (Below w.heap.size w wr) ∧ Aside0 (∀ j, j < kk → p (l.getD j z41) = false))
  case atStart => exact ⟨0, Nat.zero_le _, by omega, rfl, ⟨Below.refl _ w⟩, ⟨fun j hj => absurd hj (Nat.not_lt_zero _)⟩⟩
  case round =>
    obtain ⟨kk, hkk, hg, rfl, BW, HA⟩ := hrel
    by_cases hlt : kk < l.length
    · have hltz : (kk : Int) < (l.length : Int) := by omega
      obtain ⟨ad, e1, hx0, hx1⟩ := at_T41 HR.out kk (by omega) hltz
      cases e1
      rw [Int.toNat_natCast] at hx0
      replace hx0 := (BW.out.cell (World.block_lt_of_cell? w _ hx0)).trans hx0
      rw [Int.toNat_natCast] at hx1
      replace hx1 := (BW.out.cell (World.block_lt_of_cell? w _ hx1)).trans hx1
      have hcall := hp wr (rd_T41 l kk) (by unfold rd_T41; rw [Int.toNat_natCast, List.getD_eq_getElem?_getD, List.getElem?_eq_getElem hlt]; exact List.getElem_mem hlt) BW.out
      clear hp
      generalize hy : rd_T41 l kk = y at hx0 hx1 hcall
      have hy' : p (l.getD kk z41) = p y := by rw [← hy]; rfl
      clear hy
      have B := Aside0.mk hy'
      clear hy'
      cases hq : p y with
      | true =>
        rw [hq] at hcall
        go_wp2_with (go_at_fn g; refine hcall.mono ?_; rintro e w' ⟨rfl, hb'⟩)
        go_ret
        exact ⟨_, rfl, ⟨any_hit p l kk z41 hlt (B.out.trans hq)⟩, below_then BW.out BW.out.size hb'⟩
      | false =>
        rw [hq] at hcall
        go_wp2_with (go_at_fn g; refine hcall.mono ?_; rintro e w' ⟨rfl, hb'⟩)
        go_roundg (l.length - (kk + 1))
        case measure => omega
        case rel =>
          refine ⟨kk + 1, by omega, by omega, by go_num, ⟨below_then BW.out BW.out.size hb'⟩, ⟨fun j hj => ?_⟩⟩
          by_cases e : j = kk
          · subst e
            rw [B.out]; exact hq
          · exact HA.out j (by omega)
    · have hltz : ¬ (kk : Int) < (l.length : Int) := by omega
      have : kk = l.length := by omega
      subst this
      go_wp2
      go_ret
      exact ⟨_, rfl, ⟨any_miss p l z41 HA.out⟩, BW.out⟩

/-- slices.ContainsFunc. -/
theorem conSpans (g : Nat) (lb : Array Value) (p : S41 → Bool) (eg : ∀ args w, (callFunc g args).run Try.prog w = .ok (.enter g args) w) (A : Option Addr) (c : Nat) (l : List (S41)) (w : World)
    (hp : Pred g lb (fun x : S41 => Value.agg #[.int .i64 x.f0, .int .i64 x.f1]) (· ∈ l) p w) (hr : Kd.C k41 w A l.length l) (hc : l.length ≤ c) :
    Calls Try.prog 63 #[.slice A l.length c, .func (.func g) #[] lb] w fun e w' => e = .returned (.bool (l.any p)) ∧ Below w.heap.size w w' := by
  go_enter Try.func63, Try.ntmps63
  go_wp2_with (go_at_call 82; refine (conSpans_index g lb p eg A c l _ hp hr hc).mono ?_; rintro e w' ⟨n, rfl, HN, hb⟩)
  go_ret
  exact ⟨by rw [← HN.out]; rfl, hb⟩

def wrongB (x : S41) : Bool := !(isIn (-100000) x.f0 x.f1) || decide (100000 < x.f1)
set_option maxRecDepth 100000 in
/-- hand.Within$1 -/
theorem wrong1 (l : List S41) (w : World) : Pred 61 #[] (fun x : S41 => Value.agg #[.int .i64 x.f0, .int .i64 x.f1]) (· ∈ l) wrongB w := by
 intro W x _ _
 have hu41 := Try.underlying41
 obtain ⟨r, hr⟩ : ∃ r, r = wrongB x := ⟨_, rfl⟩
 rw [← hr]
 unfold wrongB at hr
 show Calls Try.prog 61 #[.agg #[.int .i64 x.f0, .int .i64 x.f1]] W _
 have hb0 := below_alloc (Below.refl W.heap.size W) (.cells #[.int .i64 x.f0, .int .i64 x.f1] 41)
 have k0 := blk_new W (.cells #[.int .i64 x.f0, .int .i64 x.f1] 41)
 cases h0 : isIn (-100000) x.f0 x.f1
 · rw [h0] at hr
   simp at hr
   subst hr
   go_enter Try.func61, Try.ntmps61
   go_wp2_with (go_at_call 62; refine (bt_calls _ _ _ _).mono ?_; rintro e w' ⟨rfl, ⟨nd, rfl⟩⟩; rw [h0])
   go_ret
   exact ⟨rfl, pw_below_drewN hb0 _⟩
 · rw [h0] at hr
   by_cases h1 : 100000 < x.f1
   · have d1 : decide (x.f1 > 100000) = true := decide_eq_true h1
     have d2 : decide (100000 < x.f1) = true := decide_eq_true h1
     rw [d2] at hr
     simp at hr
     subst hr
     go_enter Try.func61, Try.ntmps61
     go_wp2_with (go_at_call 62; refine (bt_calls _ _ _ _).mono ?_; rintro e w' ⟨rfl, ⟨nd, rfl⟩⟩; rw [h0])
     go_ret
     exact ⟨rfl, pw_below_drewN hb0 _⟩
   · have d1 : decide (x.f1 > 100000) = false := decide_eq_false h1
     have d2 : decide (100000 < x.f1) = false := decide_eq_false h1
     rw [d2] at hr
     simp at hr
     subst hr
     go_enter Try.func61, Try.ntmps61
     go_wp2_with (go_at_call 62; refine (bt_calls _ _ _ _).mono ?_; rintro e w' ⟨rfl, ⟨nd, rfl⟩⟩; rw [h0])
     go_ret
     exact ⟨rfl, pw_below_drewN hb0 _⟩
theorem lo_calls (x : S41) (w : World) : Calls Try.prog 65 #[.agg #[.int .i64 x.f0, .int .i64 x.f1]] w fun e w' => e = .returned (.int .i64 x.f0) ∧ Below w.heap.size w w' := by
 have hu41 := Try.underlying41
 go_enter Try.func65, Try.ntmps65
 go_wp2
 go_ret
 exact ⟨rfl, below_alloc (Below.refl _ _) _⟩
theorem hi_calls (x : S41) (w : World) : Calls Try.prog 66 #[.agg #[.int .i64 x.f0, .int .i64 x.f1]] w fun e w' => e = .returned (.int .i64 x.f1) ∧ Below w.heap.size w w' := by
 have hu41 := Try.underlying41
 go_enter Try.func66, Try.ntmps66
 go_wp2
 go_ret
 exact ⟨rfl, below_alloc (Below.refl _ _) _⟩
theorem take_T41 (l : List S41) {i : Nat} (h : i < l.length) : l.take (i + 1) = l.take i ++ [rd_T41 l (i : Int)] := by
 rw [List.take_add_one, List.getElem?_eq_getElem h]
 unfold rd_T41
 rw [Int.toNat_natCast, List.getD_eq_getElem?_getD, List.getElem?_eq_getElem h]
 rfl
set_option maxHeartbeats 4000000 in
set_option maxRecDepth 100000 in
/-- hand.ends -/
theorem ends_calls (g : Nat) (hg : g = 65 ∨ g = 66) (p : S41 → Int) (hp : ∀ x w, Calls Try.prog g #[.agg #[.int .i64 x.f0, .int .i64 x.f1]] w fun e w' => e = .returned (.int .i64 (p x)) ∧ Below w.heap.size w w') (eg : ∀ args w, (callFunc g args).run Try.prog w = .ok (.enter g args) w) (A : Option Addr) (c : Nat) (l : List S41) (w : World) (hr : Kd.C k41 w A l.length l) (hc : l.length ≤ c) (hl : l.length ≤ 1000) :
  Calls Try.prog 67 #[.slice A l.length c, .func (.func g) #[] #[]] w fun e w' => ∃ v, e = .returned v ∧ Kd.R (Kd.int .i64) 3 w' w.heap.size (fun _ => True) v (l.map p) ∧ Below w.heap.size w w' := by
 have hu41 := Try.underlying41
 have HR := Aside0.mk hr
 have HP := Aside0.mk hp
 clear hr hp
 go_enter Try.func67, Try.ntmps67
 go_wp2
 go_loopw [5, 10] (fun s5 s10 wr => ∃ (i : Nat) (v : Value), v = s5 ∧ s10 = .int .i64 i ∧ Aside0 (i ≤ l.length) ∧ Aside0 (OwnI wr w.heap.size v ((l.take i).map p)) ∧ Aside0 (Below w.heap.size w wr)) (fun _ s10 _ => l.length - (intOf s10).toNat)
 case atStart => exact ⟨0, _, rfl, rfl, ⟨Nat.zero_le _⟩, ⟨OwnI.nil⟩, ⟨Below.refl _ _⟩⟩
 case round =>
  obtain ⟨i, v, rfl, rfl, HI, HO, HB⟩ := hrel
  rename World => wr
  by_cases hlt : i < l.length
  · have hd1 : decide ((i : Int) < (l.length : Int)) = true := decide_eq_true (by omega)
    have p1 : (0 : Int) ≤ (i : Int) := by omega
    have p2 : (i : Int) < (l.length : Int) := by omega
    obtain ⟨ad, had, x0, x1⟩ := at_T41 (Kd.C_below HR.out HB.out) (i : Int) p1 p2
    cases had
    rw [Int.toNat_natCast] at x0 x1
    have HT := Aside0.mk (show (l.take (i + 1)).map p = (l.take i).map p ++ [p (rd_T41 l i)] by rw [take_T41 l hlt, List.map_append]; rfl)
    have HML := Aside0.mk (show ((l.take i).map p).length ≤ 1000 by rw [List.length_map, List.length_take]; omega)
    have HJ1 := Aside0.mk (show wrap64 ((i : Int) + 1) = ((i + 1 : Nat) : Int) by rw [w64' _ (by omega) (by omega)]; rfl)
    have HIL := Aside0.mk hlt
    generalize rd_T41 l (i : Int) = x at x0 x1 HT
    generalize (l.take i).map p = D at HO HT HML
    have hcall := HP.out x (wr.alloc (.cells #[.int .i64 x.f0, .int .i64 x.f1] 41))
    generalize p x = q at hcall HT
    clear hlt
    rcases hg with rfl | rfl
    all_goals
      go_wp2_with fail
      refine hcall.mono ?_
      clear hcall
      rintro e w3 ⟨rfl, hb3⟩
      have hb4 : Below wr.heap.size wr (w3.alloc (.cells #[.int .i64 q] 3)) := below_alloc ((below_alloc (Below.refl wr.heap.size wr) (.cells #[.int .i64 x.f0, .int .i64 x.f1] 41)).trans (hb3.mono (by simp))) _
      have HO4 := Aside0.mk (HO.out.below hb4)
      have HB4 := Aside0.mk (HB.out.trans (hb4.mono HB.out.size))
      clear hb3 hb4
      go_wp2_with (at_builtin; refine Aside0.out ?_)
      refine ⟨?_⟩
      refine wpList_append_OwnI 71 und71 rfl _ _ rfl w.heap.size v D [q] rfl HO4.out ⟨w3.heap.size, 0, none⟩ 1 1 rfl rfl (one_cell w3 q 3) (by have := HML.out; omega) HB4.out.size ?_
      intro v' w5 hO5 hb5 hg5 ho5
      have HO5 := Aside0.mk hO5
      have HB5 := Aside0.mk (HB4.out.trans hb5)
      clear hO5 hb5 hg5 ho5 HO4 HB4 HO HB x0 x1
      go_wp2
      refine ⟨⟨i + 1, v', rfl, by first | rfl | exact congrArg _ HJ1.out, ⟨HIL.out⟩, ⟨by rw [HT.out]; exact HO5.out⟩, HB5⟩, ?_⟩
      have := HIL.out
      first | (show l.length - ((i : Int) + 1).toNat < l.length - ((i : Int)).toNat; omega) | (rw [HJ1.out]; show l.length - (((i + 1 : Nat) : Int)).toNat < l.length - ((i : Int)).toNat; omega)
  · have hd1 : decide ((i : Int) < (l.length : Int)) = false := decide_eq_false (by omega)
    obtain rfl : i = l.length := by have := HI.out; omega
    have ho := HO.out
    rw [List.take_length] at ho
    have HO2 := Aside0.mk ho
    clear ho HO
    go_wp2
    go_ret
    exact ⟨_, rfl, HO2.out.R, HB.out⟩

end Go.Proofs.Ythddeillkdediaa.H

/- hand.Within. -/
namespace Go.Proofs.Ythddeillkdediaa.H
open Go.RowKit Go.Proofs.YthddeillkdediaaW.PrintWords Go.Proofs.YthddeillkdediaaW.PrintLast Go.Proofs.YthddeillkdediaaW.PrintMore
open Go.Shelf Go.Proofs.Ythddeillkdediaa.QA
set_option linter.unusedVariables false
set_option linter.unusedSimpArgs false

def cellsSp (xs : List S41) : List Value := xs.flatMap fun x => [.int .i64 x.f0, .int .i64 x.f1]
theorem cellsSp_len (xs : List S41) : (cellsSp xs).length = xs.length * 2 := by
 induction xs with
 | nil => rfl
 | cons x xs ih => show (_ ++ cellsSp xs).length = _; rw [List.length_append, ih, List.length_cons]; simp; omega
theorem cellsSp_one (xs : List S41) : ∀ u ∈ cellsSp xs, u.oneCell' = true := by
 intro u hu
 obtain ⟨x, _, hx⟩ := List.mem_flatMap.1 hu
 simp only [List.mem_cons, List.not_mem_nil, or_false] at hx
 rcases hx with rfl | rfl <;> rfl
/-- An own row of spans. -/
def OwnSp (W : World) (base : Nat) (v : Value) (xs : List S41) : Prop := W.ownsRow base 41 2 v xs.length (cellsSp xs)
theorem OwnSp_reps (w : World) (base : Nat) (ok : Nat → Prop) (xs : List S41) : Reps (k41.M w base ok) 2 xs (cellsSp xs) := by
 have h : ∀ (ys zs : List S41), Reps (k41.M w base ok) 2 ys (cellsSp ys) → Reps (k41.M w base ok) 2 (ys ++ zs) (cellsSp (ys ++ zs)) := fun ys zs => by
  induction zs generalizing ys with
  | nil => intro h; simpa using h
  | cons z zs ih =>
   intro h
   have := ih (ys ++ [z]) (by
    have h2 := h.snoc (p := z) (c := [.int .i64 z.f0, .int .i64 z.f1]) (k41_mkM w base ok z) rfl
    simpa [cellsSp] using h2)
   simpa using this
 simpa using h [] xs (Reps.none _ _)
theorem OwnSp.R {W : World} {base : Nat} {v : Value} {xs : List S41} (h : OwnSp W base v xs) : Kd.R k41 41 W base (fun _ => True) v xs := ⟨fun _ _ => trivial, cellsSp xs, h, OwnSp_reps _ _ _ xs⟩
theorem own_base2 {W : World} {base e size : Nat} {v : Value} {n : Nat} {xs : List Value} (h : W.ownsRow base e size v n xs) : ∀ k, v.ownBlock = some k → base ≤ k := fun k ek => by
 rcases h.2 with ⟨h3, _⟩ | ⟨g, cap, cur, rfl, h4, _⟩
 · rw [h3] at ek; cases ek
 · obtain rfl : g = k := Option.some.inj ek
   exact h4
theorem wpList_append_OwnSp {ops : Array Oper} {rest : List Oper} {o : Oper} {a : Act} {Q : Exit → Act → World → Prop} {W : World} (hgd : o.guard = none) (s x : Operand)
  (ho : o.op = .call { callee := .builtin .append, args := #[s, x], argTypes := #[39, 39] }) (base : Nat) (v : Value) (xs ys : List S41) (hs : a.eval s = v) (hv : OwnSp W base v xs) (ad : Addr) (m c : Nat) (hx : a.eval x = .slice (some ad) m c) (hm : m = ys.length)
  (hc : ∀ j u, (cellsSp ys)[j]? = some u → W.cell? (ad.add j) = some u) (hl : xs.length + m ≤ 1000000) (hb : base ≤ W.heap.size)
  (h : ∀ v' w', OwnSp w' base v' (xs ++ ys) → Below base W w' → wpList Try.prog ops Q rest (a.put o.dst v') w') : wpList Try.prog ops Q (o :: rest) a W := by
 obtain ⟨i0, hi, hz0, hz1, hz2⟩ := info_parts info41
 have hM : maxLen = 9223372036854775807 := rfl
 refine wpList_append_own_at _ hgd s x 39 ho base 41 i0 (.agg #[(.int .i64 0), (.int .i64 0)]) 2 16 (by kernel_rfl) hi hz0 hz1 hz2 rfl (by decide) v xs.length (cellsSp xs) hs hv ad m c (cellsSp ys) hx (by rw [cellsSp_len, hm]) hc (cellsSp_one ys) (by omega) (by omega) hb ?_
 intro v' w' h1 h2 h3 h4
 refine h v' w' ?_ ((Below.refl _ _).grown h2 hb (fun j ej => own_base2 hv j ej))
 unfold OwnSp
 rw [List.length_append, ← hm]
 rw [show cellsSp (xs ++ ys) = cellsSp xs ++ cellsSp ys by simp [cellsSp]]
 exact h1
theorem cellsSp_at : ∀ (xs : List S41) (j : Nat) (u : Value), (cellsSp xs)[j]? = some u → ∃ i, i < xs.length ∧ ((j = i * 2 ∧ u = .int .i64 (rd_T41 xs (i : Int)).f0) ∨ (j = i * 2 + 1 ∧ u = .int .i64 (rd_T41 xs (i : Int)).f1))
 | [], j, u, h => by simp [cellsSp] at h
 | x :: xs, 0, u, h => ⟨0, by simp, .inl ⟨rfl, (Option.some.inj h).symm⟩⟩
 | x :: xs, 1, u, h => ⟨0, by simp, .inr ⟨rfl, (Option.some.inj h).symm⟩⟩
 | x :: xs, j + 2, u, h => by
  have e : cellsSp (x :: xs) = [.int .i64 x.f0, .int .i64 x.f1] ++ cellsSp xs := rfl
  rw [e] at h
  obtain ⟨i, hi, h2⟩ := cellsSp_at xs j u (by simpa using h)
  have hr : rd_T41 (x :: xs) ((i + 1 : Nat) : Int) = rd_T41 xs (i : Int) := by unfold rd_T41; simp
  refine ⟨i + 1, by simpa using hi, ?_⟩
  rw [hr]
  rcases h2 with ⟨h2, h3⟩ | ⟨h2, h3⟩
  · exact .inl ⟨by omega, h3⟩
  · exact .inr ⟨by omega, h3⟩
theorem spans_cells {W : World} {ad : Addr} {n : Nat} {xs : List S41} (h : Kd.C k41 W (some ad) n xs) (hn : n = xs.length) : ∀ j u, (cellsSp xs)[j]? = some u → W.cell? (ad.add j) = some u := fun j u hu => by
 obtain ⟨i, hi, h2⟩ := cellsSp_at xs j u hu
 obtain ⟨ad2, had, x0, x1⟩ := at_T41 h (i : Int) (by omega) (by omega)
 cases had
 rw [Int.toNat_natCast] at x0 x1
 rcases h2 with ⟨rfl, rfl⟩ | ⟨rfl, rfl⟩
 · exact x0
 · rw [← Addr.add_add]
   exact (congrArg W.cell? (add_field (ad.add (i * 2)) 0 1 (by omega))).trans x1
set_option maxRecDepth 100000 in
/-- slices.Grow(nil, n) -/
theorem grow_calls (n : Nat) (w : World) (h0 : 0 < n) (hn : n ≤ 1000) : Calls Try.prog 83 #[.slice none 0 0, .int .i64 n] w fun e w' => ∃ v, e = .returned v ∧ OwnSp w' w.heap.size v [] ∧ Below w.heap.size w w' := by
 obtain ⟨i0, hi, hz0, hz1, hz2⟩ := info_parts info41
 have hrz := Lib.run_append_grow_zeros w 39 3 39 41 i0 (.agg #[(.int .i64 0), (.int .i64 0)]) .i64 .i64 (by kernel_rfl) Try.underlying3 hi hz0 none 0 0 [] (run_firstCells_none w.drew i0.size 0 0 0) n h0 (by rw [hz1]; decide) (by omega) (by omega) (by rw [hz2]; omega) (by rw [hz2, Nat.zero_add]; exact growslice_fits h0 (by omega))
 rw [Nat.zero_add] at hrz
 have hG := grownCap_ge w n 0 41
 have hG2 := grownCap_le_maxLen w n 0 41 (by unfold maxLen; omega)
 generalize grownCap w n 0 41 = G at hrz hG hG2
 have d1 : decide ((n : Int) < 0) = false := decide_eq_false (by omega)
 have d2 : decide ((0 : Int) < (n : Int)) = true := decide_eq_true (by omega)
 have d3 : decide ((n : Int) > 0) = true := decide_eq_true (by omega)
 have hM : maxLen = 9223372036854775807 := rfl
 go_enter Try.func83, Try.ntmps83
 go_wp2_with (at_builtin; refine Lib.wpList_append_run _ rfl _ _ _ _ rfl _ _ rfl rfl _ _ hrz ?_)
 go_ret
 refine ⟨_, rfl, ⟨rfl, .inr ⟨w.heap.size, G, _, rfl, Nat.le_refl _, blk_new w _, Nat.zero_le _, hG2, ?_, by simp [cellsSp]⟩⟩, ?_⟩
 · simp [Builtin.zeroCells]
   omega
 · exact pw_below_drewN (below_alloc (Below.refl w.heap.size w) _) 1
set_option maxHeartbeats 4000000 in
set_option maxRecDepth 100000 in
/-- slices.Concat, of two -/
theorem concat_calls (g : Nat) (A : Option Addr) (c : Nat) (a : List S41) (B : Option Addr) (d : Nat) (b : List S41) (w : World) (hg : w.heap[g]? = some (.cells #[.slice A a.length c, .slice B b.length d] 39 (0, 0))) (hr : Kd.C k41 w A a.length a) (hr2 : Kd.C k41 w B b.length b) (h1 : 0 < a.length ∧ a.length ≤ 100) (h2 : 0 < b.length ∧ b.length ≤ 100) :
  Calls Try.prog 64 #[.slice (some ⟨g, 0, none⟩) 2 2] w fun e w' => ∃ v, e = .returned v ∧ Kd.R k41 41 w' w.heap.size (fun _ => True) v (a ++ b) ∧ Below w.heap.size w w' := by
 obtain ⟨ad, had, -, -⟩ := at_T41 hr 0 (by omega) (by omega)
 subst had
 obtain ⟨bd, hbd, -, -⟩ := at_T41 hr2 0 (by omega) (by omega)
 subst hbd
 have HR := Aside0.mk hr
 have HR2 := Aside0.mk hr2
 have HG := Aside0.mk hg
 have HL := Aside0.mk (And.intro h1 h2)
 have g0 : w.cell? ⟨g, 0, none⟩ = some (.slice (some ad) a.length c) := (blk_cell hg 0).trans rfl
 have g1 : w.cell? ⟨g, 1, none⟩ = some (.slice (some bd) b.length d) := (blk_cell hg 1).trans rfl
 have e0 : wrap64 (a.length : Int) = a.length := w64' _ (by omega) (by omega)
 have e1 : wrap64 ((a.length : Int) + (b.length : Int)) = ((a.length + b.length : Nat) : Int) := by rw [w64' _ (by omega) (by omega)]; omega
 have n0 : decide ((a.length : Int) < 0) = false := decide_eq_false (by omega)
 have n1 : decide (((a.length + b.length : Nat) : Int) < 0) = false := decide_eq_false (by omega)
 have n2 : decide ((a.length : Int) + (b.length : Int) < 0) = false := decide_eq_false (by omega)
 clear hr hr2 hg h1 h2
 go_enter Try.func64, Try.ntmps64
 go_wp2
 refine wp_loop_rounds 4 ?_
 rw [rounds_succ]
 go_wp2_with fail
 rw [rounds_succ]
 go_wp2_with fail
 rw [rounds_succ]
 go_wp2_with fail
 have hgc := grow_calls (a.length + b.length) w (by have := HL.out; omega) (by have := HL.out; omega)
 rw [Int.natCast_add] at hgc
 refine hgc.mono ?_
 clear hgc
 rintro e w1 ⟨v1, rfl, hO1, hb1⟩
 have HO1 := Aside0.mk hO1
 have HB1 := Aside0.mk hb1
 have g0' : w1.cell? ⟨g, 0, none⟩ = some (.slice (some ad) a.length c) := (blk_cell (blk_below2 hb1 HG.out) 0).trans rfl
 clear hO1 hb1 g0 g1
 go_wp2_with fail
 refine wp_loop_rounds 4 ?_
 rw [rounds_succ]
 go_wp2_with (at_builtin; refine Aside0.out ?_)
 refine ⟨?_⟩
 refine wpList_append_OwnSp rfl _ _ rfl w.heap.size v1 [] a rfl HO1.out ad a.length c rfl rfl (spans_cells (Kd.C_below HR.out HB1.out) rfl) (by have := HL.out; simp; omega) HB1.out.size ?_
 intro v2 w2 hO2 hb2
 have HO2 := Aside0.mk hO2
 have HB2 := Aside0.mk (HB1.out.trans hb2)
 have g1' : w2.cell? ⟨g, 1, none⟩ = some (.slice (some bd) b.length d) := (blk_cell ((HB2.out.block _ (blk_lt2 HG.out)).trans HG.out) 1).trans rfl
 clear hO2 hb2 HO1 g0'
 go_wp2_with fail
 rw [rounds_succ]
 go_wp2_with (at_builtin; refine Aside0.out ?_)
 refine ⟨?_⟩
 refine wpList_append_OwnSp rfl _ _ rfl w.heap.size v2 ([] ++ a) b rfl HO2.out bd b.length d rfl rfl (spans_cells (Kd.C_below HR2.out HB2.out) rfl) (by have := HL.out; simp; omega) HB2.out.size ?_
 intro v3 w3 hO3 hb3
 have HO3 := Aside0.mk hO3
 have HB3 := Aside0.mk (HB2.out.trans hb3)
 clear hO3 hb3 HO2 g1'
 go_wp2_with fail
 rw [rounds_succ]
 go_wp2_with fail
 go_ret
 exact ⟨v3, rfl, HO3.out.R, HB3.out⟩
def loI (l : List S41) : List Int := l.map fun x => x.f0
def hiI (l : List S41) : List Int := l.map fun x => x.f1
def withinE (a b : List S41) : Int := if a.length = 0 ∨ b.length = 0 then 4 else if 16 < a.length ∨ 16 < b.length then 5 else if (a ++ b).any wrongB = true then 3 else 0
def hand_Within.f (a b : List S41) : Option (Int × Int × Int) := some (if withinE a b = 0 then (beatsI (hiI a) (loI b), beatsI (loI a) (hiI b), 0) else (0, 0, withinE a b))

end Go.Proofs.Ythddeillkdediaa.H

/- hand.Within. -/
namespace Go.Proofs.Ythddeillkdediaa.H
open Go.RowKit Go.Proofs.YthddeillkdediaaW.PrintWords Go.Proofs.YthddeillkdediaaW.PrintLast Go.Proofs.YthddeillkdediaaW.PrintMore
open Go.Shelf Go.Proofs.Ythddeillkdediaa.QA
set_option linter.unusedVariables false
set_option linter.unusedSimpArgs false

set_option maxHeartbeats 4000000 in
set_option maxRecDepth 100000 in
theorem hand_Within.calls (A : Option Addr) (c : Nat) (a : List S41) (B : Option Addr) (d : Nat) (b : List S41) (r1 r2 r3 : Int) (w : World) (hr : Kd.C k41 w A a.length a) (hc : a.length ≤ c) (hr2 : Kd.C k41 w B b.length b) (hc2 : b.length ≤ d) (h : hand_Within.f a b = some (r1, r2, r3)) :
  Calls Try.prog 28 #[.slice A a.length c, .slice B b.length d] w fun e w' => e = .returned (.tuple #[.agg #[.int .i64 r1, .int .i64 r2], .int .i64 r3]) ∧ Below w.heap.size w w' := by
 have hu41 := Try.underlying41
 have hm1 := Kd.C_max hr
 have hm2 := Kd.C_max hr2
 have HR := Aside0.mk hr
 have HR2 := Aside0.mk hr2
 have h := Option.some.inj h
 have HB := Aside0.mk (below_alloc (Below.refl w.heap.size w) (.cells #[.int .i64 0, .int .i64 0] 41))
 have HK := Aside0.mk (blk_new w (.cells #[.int .i64 0, .int .i64 0] 41))
 clear hr hr2
 by_cases ha : a.length = 0
 · have hE : withinE a b = 4 := by unfold withinE; rw [if_pos (.inl ha)]
   rw [hE, if_neg (by decide)] at h
   obtain ⟨g1, h2⟩ := Prod.mk.inj h
   obtain ⟨g2, g3⟩ := Prod.mk.inj h2
   clear h h2 hE
   subst g1 g2 g3
   have z1 : ((a.length : Int) == 0) = true := by simp [ha]
   have s0 : (w.alloc (.cells #[.int .i64 0, .int .i64 0] 41)).cell? ⟨w.heap.size, 0, none⟩ = some (.int .i64 0) := (blk_cell HK.out 0).trans rfl
   have s1 : (w.alloc (.cells #[.int .i64 0, .int .i64 0] 41)).cell? ⟨w.heap.size, 1, none⟩ = some (.int .i64 0) := (blk_cell HK.out 1).trans rfl
   have f0 := blk_frozen HK.out 0
   have f1 := blk_frozen HK.out 1
   go_enter Try.func28, Try.ntmps28
   go_wp2
   refine bodyPost_ret (results_ct rfl _ _ w.heap.size 41 #[.int .i64 0, .int .i64 0] (0, 0) _ rfl (by first | exact HK.out | (refine blk_put (cs := #[.int .i64 0, .int .i64 0]) ?_ 1 _ rfl; refine blk_put (cs := #[.int .i64 0, .int .i64 0]) ?_ 0 _ rfl; exact HK.out)) Try.underlying41 rfl (by kernel_rfl)) rfl ?_
   exact ⟨rfl, by first | exact HB.out | exact below_set (below_set HB.out (Nat.le_refl _)) (Nat.le_refl _)⟩
 · have za : ((a.length : Int) == 0) = false := by simp only [beq_eq_false_iff_ne, ne_eq]; omega
   by_cases hb : b.length = 0
   · have hE : withinE a b = 4 := by unfold withinE; rw [if_pos (.inr hb)]
     rw [hE, if_neg (by decide)] at h
     obtain ⟨g1, h2⟩ := Prod.mk.inj h
     obtain ⟨g2, g3⟩ := Prod.mk.inj h2
     clear h h2 hE
     subst g1 g2 g3
     have z1 : ((b.length : Int) == 0) = true := by simp [hb]
     have s0 : (w.alloc (.cells #[.int .i64 0, .int .i64 0] 41)).cell? ⟨w.heap.size, 0, none⟩ = some (.int .i64 0) := (blk_cell HK.out 0).trans rfl
     have s1 : (w.alloc (.cells #[.int .i64 0, .int .i64 0] 41)).cell? ⟨w.heap.size, 1, none⟩ = some (.int .i64 0) := (blk_cell HK.out 1).trans rfl
     have f0 := blk_frozen HK.out 0
     have f1 := blk_frozen HK.out 1
     go_enter Try.func28, Try.ntmps28
     go_wp2
     refine bodyPost_ret (results_ct rfl _ _ w.heap.size 41 #[.int .i64 0, .int .i64 0] (0, 0) _ rfl (by first | exact HK.out | (refine blk_put (cs := #[.int .i64 0, .int .i64 0]) ?_ 1 _ rfl; refine blk_put (cs := #[.int .i64 0, .int .i64 0]) ?_ 0 _ rfl; exact HK.out)) Try.underlying41 rfl (by kernel_rfl)) rfl ?_
     exact ⟨rfl, by first | exact HB.out | exact below_set (below_set HB.out (Nat.le_refl _)) (Nat.le_refl _)⟩
   · have zb : ((b.length : Int) == 0) = false := by simp only [beq_eq_false_iff_ne, ne_eq]; omega
     by_cases h16 : 16 < a.length ∨ 16 < b.length
     · have hE : withinE a b = 5 := by unfold withinE; rw [if_neg (by omega), if_pos h16]
       rw [hE, if_neg (by decide)] at h
       obtain ⟨g1, h2⟩ := Prod.mk.inj h
       obtain ⟨g2, g3⟩ := Prod.mk.inj h2
       clear h h2 hE
       subst g1 g2 g3
       by_cases hx : 16 < a.length
       · have y1 : decide ((16 : Int) < (a.length : Int)) = true := decide_eq_true (by omega)
         have y2 : decide ((a.length : Int) > 16) = true := decide_eq_true (by omega)
         have s0 : (w.alloc (.cells #[.int .i64 0, .int .i64 0] 41)).cell? ⟨w.heap.size, 0, none⟩ = some (.int .i64 0) := (blk_cell HK.out 0).trans rfl
         have s1 : (w.alloc (.cells #[.int .i64 0, .int .i64 0] 41)).cell? ⟨w.heap.size, 1, none⟩ = some (.int .i64 0) := (blk_cell HK.out 1).trans rfl
         have f0 := blk_frozen HK.out 0
         have f1 := blk_frozen HK.out 1
         go_enter Try.func28, Try.ntmps28
         go_wp2
         refine bodyPost_ret (results_ct rfl _ _ w.heap.size 41 #[.int .i64 0, .int .i64 0] (0, 0) _ rfl (by first | exact HK.out | (refine blk_put (cs := #[.int .i64 0, .int .i64 0]) ?_ 1 _ rfl; refine blk_put (cs := #[.int .i64 0, .int .i64 0]) ?_ 0 _ rfl; exact HK.out)) Try.underlying41 rfl (by kernel_rfl)) rfl ?_
         exact ⟨rfl, by first | exact HB.out | exact below_set (below_set HB.out (Nat.le_refl _)) (Nat.le_refl _)⟩
       · have y1 : decide ((16 : Int) < (a.length : Int)) = false := decide_eq_false (by omega)
         have hy : 16 < b.length := by omega
         have y3 : decide ((16 : Int) < (b.length : Int)) = true := decide_eq_true (by omega)
         have s0 : (w.alloc (.cells #[.int .i64 0, .int .i64 0] 41)).cell? ⟨w.heap.size, 0, none⟩ = some (.int .i64 0) := (blk_cell HK.out 0).trans rfl
         have s1 : (w.alloc (.cells #[.int .i64 0, .int .i64 0] 41)).cell? ⟨w.heap.size, 1, none⟩ = some (.int .i64 0) := (blk_cell HK.out 1).trans rfl
         have f0 := blk_frozen HK.out 0
         have f1 := blk_frozen HK.out 1
         go_enter Try.func28, Try.ntmps28
         go_wp2
         refine bodyPost_ret (results_ct rfl _ _ w.heap.size 41 #[.int .i64 0, .int .i64 0] (0, 0) _ rfl (by first | exact HK.out | (refine blk_put (cs := #[.int .i64 0, .int .i64 0]) ?_ 1 _ rfl; refine blk_put (cs := #[.int .i64 0, .int .i64 0]) ?_ 0 _ rfl; exact HK.out)) Try.underlying41 rfl (by kernel_rfl)) rfl ?_
         exact ⟨rfl, by first | exact HB.out | exact below_set (below_set HB.out (Nat.le_refl _)) (Nat.le_refl _)⟩
     · have y1 : decide ((16 : Int) < (a.length : Int)) = false := decide_eq_false (by omega)
       have y2 : decide ((16 : Int) < (b.length : Int)) = false := decide_eq_false (by omega)
       have hx : ¬ 16 < a.length := by omega
       have hy : ¬ 16 < b.length := by omega
       have HL := Aside0.mk (show (0 < a.length ∧ a.length ≤ 16) ∧ 0 < b.length ∧ b.length ≤ 16 by omega)
       have hE : withinE a b = if (a ++ b).any wrongB = true then 3 else 0 := by unfold withinE; rw [if_neg (by omega), if_neg h16]
       have HLL := Aside0.mk (show (a ++ b).length = a.length + b.length from List.length_append)
       go_enter Try.func28, Try.ntmps28
       go_wp2_with fail
       have hk1 := blk_new (w.alloc (.cells #[.int .i64 0, .int .i64 0] 41)) (.cells #[.slice A a.length c, .slice B b.length d] 39)
       have hs1 : (w.alloc (.cells #[.int .i64 0, .int .i64 0] 41)).heap.size = w.heap.size + 1 := by simp
       rw [hs1] at hk1
       have hb1 := below_alloc HB.out (.cells #[.slice A a.length c, .slice B b.length d] 39)
       refine (concat_calls (w.heap.size + 1) A c a B d b _ hk1 (Kd.C_below HR.out hb1) (Kd.C_below HR2.out hb1) (by have := HL.out; omega) (by have := HL.out; omega)).mono ?_
       rintro e w2 ⟨v, rfl, hv, hb2⟩
       obtain ⟨A5, c5, rfl, hc5, hC5⟩ := Kd.R_reads hv
       have HC5 := Aside0.mk hC5
       have HB2 := Aside0.mk (hb1.trans (hb2.mono hb1.size))
       have HK2 := Aside0.mk (blk_below2 hb2 (blk_alloc HK.out (.cells #[.slice A a.length c, .slice B b.length d] 39)))
       clear hv hC5 hb2 hb1 hk1
       generalize a ++ b = ab at HC5 hc5 hE HLL
       have hcon := conSpans 61 #[] wrongB (enters_of Try.func61 (by kernel_rfl) rfl) A5 c5 ab w2 (wrong1 ab w2) HC5.out hc5
       cases hq : ab.any wrongB with
       | true =>
        rw [hq] at hcon hE
        rw [if_pos rfl] at hE
        rw [hE, if_neg (by decide)] at h
        obtain ⟨g1, h2⟩ := Prod.mk.inj h
        obtain ⟨g2, g3⟩ := Prod.mk.inj h2
        clear h h2 hE
        subst g1 g2 g3
        go_wp2_with fail
        refine hcon.mono ?_
        clear hcon
        rintro e w3 ⟨rfl, hb3⟩
        have hk3 := blk_below2 hb3 HK2.out
        have s0 : w3.cell? ⟨w.heap.size, 0, none⟩ = some (.int .i64 0) := (blk_cell hk3 0).trans rfl
        have s1 : w3.cell? ⟨w.heap.size, 1, none⟩ = some (.int .i64 0) := (blk_cell hk3 1).trans rfl
        have f0 := blk_frozen hk3 0
        have f1 := blk_frozen hk3 1
        have HK3 := Aside0.mk hk3
        have HB3 := Aside0.mk (HB2.out.trans (hb3.mono HB2.out.size))
        clear hk3 hb3
        go_wp2
        refine bodyPost_ret (results_ct rfl _ _ w.heap.size 41 #[.int .i64 0, .int .i64 0] (0, 0) _ rfl (by refine blk_put (cs := #[.int .i64 0, .int .i64 0]) ?_ 1 _ rfl; refine blk_put (cs := #[.int .i64 0, .int .i64 0]) ?_ 0 _ rfl; exact HK3.out) Try.underlying41 rfl (by kernel_rfl)) rfl ?_
        exact ⟨rfl, below_set (below_set HB3.out (Nat.le_refl _)) (Nat.le_refl _)⟩
       | false =>
        rw [hq] at hcon hE
        rw [if_neg (by decide)] at hE
        rw [hE, if_pos rfl] at h
        obtain ⟨g1, h2⟩ := Prod.mk.inj h
        obtain ⟨g2, g3⟩ := Prod.mk.inj h2
        have HQ := Aside0.mk (And.intro g1 g2)
        clear h h2 hE g1 g2
        subst g3
        go_wp2_with fail
        refine hcon.mono ?_
        clear hcon
        rintro e w3 ⟨rfl, hb3⟩
        have HK3 := Aside0.mk (blk_below2 hb3 HK2.out)
        have HB3 := Aside0.mk (HB2.out.trans (hb3.mono HB2.out.size))
        clear hb3
        go_wp2_with fail
        refine (ends_calls 66 (.inr rfl) (fun x => x.f1) hi_calls (enters_of Try.func66 (by kernel_rfl) rfl) A c a _ (Kd.C_below HR.out HB3.out) hc (by have := HL.out; omega)).mono ?_
        rintro e w4 ⟨v, rfl, hv, hb⟩
        obtain ⟨lx, hlx⟩ : ∃ lx, lx = a.map (fun x : S41 => x.f1) := ⟨_, rfl⟩
        rw [← hlx] at hv
        have HEx := Aside0.mk hlx
        have HNx := Aside0.mk (show lx.length ≤ 1000 by have := HL.out; rw [hlx, List.length_map]; omega)
        clear hlx
        obtain ⟨Ax, cx, rfl, hcx, hCx⟩ := Kd.R_reads hv
        have HCx := Aside0.mk hCx
        clear hv hCx
        have HK4 := Aside0.mk (blk_below2 hb HK3.out)
        have HB4 := Aside0.mk (HB3.out.trans (hb.mono HB3.out.size))
        clear hb
        go_wp2_with fail
        refine (ends_calls 65 (.inl rfl) (fun x => x.f0) lo_calls (enters_of Try.func65 (by kernel_rfl) rfl) B d b _ (Kd.C_below HR2.out HB4.out) hc2 (by have := HL.out; omega)).mono ?_
        rintro e w5 ⟨v, rfl, hv, hb⟩
        obtain ⟨ly, hly⟩ : ∃ ly, ly = b.map (fun x : S41 => x.f0) := ⟨_, rfl⟩
        rw [← hly] at hv
        have HEy := Aside0.mk hly
        have HNy := Aside0.mk (show ly.length ≤ 1000 by have := HL.out; rw [hly, List.length_map]; omega)
        clear hly
        obtain ⟨Ay, cy, rfl, hcy, hCy⟩ := Kd.R_reads hv
        have HCy := Aside0.mk hCy
        clear hv hCy
        have HK5 := Aside0.mk (blk_below2 hb HK4.out)
        have HB5 := Aside0.mk (HB4.out.trans (hb.mono HB4.out.size))
        replace HCx := Aside0.mk (Kd.C_below HCx.out hb)
        clear hb
        go_wp2_with fail
        refine (beats_calls Ax cx lx Ay cy ly _ HCx.out hcx HNx.out HCy.out hcy HNy.out).mono ?_
        rintro e w6 ⟨rfl, hb⟩
        have HK6 := Aside0.mk (blk_below2 hb HK5.out)
        have HB6 := Aside0.mk (HB5.out.trans (hb.mono HB5.out.size))
        replace HCx := Aside0.mk (Kd.C_below HCx.out hb)
        replace HCy := Aside0.mk (Kd.C_below HCy.out hb)
        clear hb
        generalize hBx : beatsI lx ly = bx
        have HB_x := Aside0.mk hBx
        clear hBx
        go_wp2_with fail
        refine (ends_calls 65 (.inl rfl) (fun x => x.f0) lo_calls (enters_of Try.func65 (by kernel_rfl) rfl) A c a _ (Kd.C_below HR.out HB6.out) hc (by have := HL.out; omega)).mono ?_
        rintro e w7 ⟨v, rfl, hv, hb⟩
        obtain ⟨lz, hlz⟩ : ∃ lz, lz = a.map (fun x : S41 => x.f0) := ⟨_, rfl⟩
        rw [← hlz] at hv
        have HEz := Aside0.mk hlz
        have HNz := Aside0.mk (show lz.length ≤ 1000 by have := HL.out; rw [hlz, List.length_map]; omega)
        clear hlz
        obtain ⟨Az, cz, rfl, hcz, hCz⟩ := Kd.R_reads hv
        have HCz := Aside0.mk hCz
        clear hv hCz
        have HK7 := Aside0.mk (blk_below2 hb HK6.out)
        have HB7 := Aside0.mk (HB6.out.trans (hb.mono HB6.out.size))
        replace HCx := Aside0.mk (Kd.C_below HCx.out hb)
        replace HCy := Aside0.mk (Kd.C_below HCy.out hb)
        clear hb
        go_wp2_with fail
        refine (ends_calls 66 (.inr rfl) (fun x => x.f1) hi_calls (enters_of Try.func66 (by kernel_rfl) rfl) B d b _ (Kd.C_below HR2.out HB7.out) hc2 (by have := HL.out; omega)).mono ?_
        rintro e w8 ⟨v, rfl, hv, hb⟩
        obtain ⟨lt, hlt⟩ : ∃ lt, lt = b.map (fun x : S41 => x.f1) := ⟨_, rfl⟩
        rw [← hlt] at hv
        have HEt := Aside0.mk hlt
        have HNt := Aside0.mk (show lt.length ≤ 1000 by have := HL.out; rw [hlt, List.length_map]; omega)
        clear hlt
        obtain ⟨At, ct, rfl, hct, hCt⟩ := Kd.R_reads hv
        have HCt := Aside0.mk hCt
        clear hv hCt
        have HK8 := Aside0.mk (blk_below2 hb HK7.out)
        have HB8 := Aside0.mk (HB7.out.trans (hb.mono HB7.out.size))
        replace HCx := Aside0.mk (Kd.C_below HCx.out hb)
        replace HCy := Aside0.mk (Kd.C_below HCy.out hb)
        replace HCz := Aside0.mk (Kd.C_below HCz.out hb)
        clear hb
        go_wp2_with fail
        refine (beats_calls Az cz lz At ct lt _ HCz.out hcz HNz.out HCt.out hct HNt.out).mono ?_
        rintro e w9 ⟨rfl, hb⟩
        have HK9 := Aside0.mk (blk_below2 hb HK8.out)
        have HB9 := Aside0.mk (HB8.out.trans (hb.mono HB8.out.size))
        replace HCx := Aside0.mk (Kd.C_below HCx.out hb)
        replace HCy := Aside0.mk (Kd.C_below HCy.out hb)
        replace HCz := Aside0.mk (Kd.C_below HCz.out hb)
        replace HCt := Aside0.mk (Kd.C_below HCt.out hb)
        clear hb
        generalize hBz : beatsI lz lt = bz
        have HB_z := Aside0.mk hBz
        clear hBz
        have hk9 := HK9.out
        have s0 : w9.cell? ⟨w.heap.size, 0, none⟩ = some (.int .i64 0) := (blk_cell hk9 0).trans rfl
        have s1 : w9.cell? ⟨w.heap.size, 1, none⟩ = some (.int .i64 0) := (blk_cell hk9 1).trans rfl
        have f0 := blk_frozen hk9 0
        have f1 := blk_frozen hk9 1
        clear hk9
        have hqx : bx = r1 := by rw [← HB_x.out, HEx.out, HEy.out]; exact HQ.out.1
        have hqz : bz = r2 := by rw [← HB_z.out, HEz.out, HEt.out]; exact HQ.out.2
        subst hqx hqz
        go_wp2
        refine bodyPost_ret (results_ct rfl _ _ w.heap.size 41 #[.int .i64 bx, .int .i64 bz] (0, 0) _ rfl (by refine blk_put (cs := #[.int .i64 bx, .int .i64 0]) ?_ 1 _ rfl; refine blk_put (cs := #[.int .i64 0, .int .i64 0]) ?_ 0 _ rfl; exact HK9.out) Try.underlying41 rfl (by kernel_rfl)) rfl ?_
        exact ⟨rfl, below_set (below_set HB9.out (Nat.le_refl _)) (Nat.le_refl _)⟩

end Go.Proofs.Ythddeillkdediaa.H

/- hand.Judge. -/
namespace Go.Proofs.Ythddeillkdediaa.H
open Go.RowKit Go.Proofs.YthddeillkdediaaW.PrintWords Go.Proofs.YthddeillkdediaaW.PrintLast Go.Proofs.YthddeillkdediaaW.PrintMore
open Go.Shelf Go.Proofs.Ythddeillkdediaa.QA
set_option linter.unusedVariables false
set_option linter.unusedSimpArgs false

/-- Whether a first fraction is greater, as 1; smaller: -1. -/
def cmpJ (n d n' d' : Int) : Int := if wrap64 (n * d') < wrap64 (n' * d) then -1 else if wrap64 (n' * d) < wrap64 (n * d') then 1 else 0
theorem comp_calls (n d n' d' : Int) (w : World) : Calls Try.prog 68 #[.agg #[.int .i64 n, .int .i64 d], .agg #[.int .i64 n', .int .i64 d']] w fun e w' => e = .returned (.int .i64 (cmpJ n d n' d')) ∧ Below w.heap.size w w' :=
 hand_compare.calls n d n' d' _ w (by unfold hand_compare.f; rw [cmp_f]; rfl)
def gtJ (n d n' d' : Int) : Bool := decide (wrap64 (n' * d) < wrap64 (n * d'))
theorem cmpJ_gt (n d n' d' : Int) : decide (0 < cmpJ n d n' d') = gtJ n d n' d' := by
 unfold cmpJ gtJ
 by_cases h1 : wrap64 (n * d') < wrap64 (n' * d)
 · rw [if_pos h1, decide_eq_false (by omega : ¬ wrap64 (n' * d) < wrap64 (n * d'))]
   rfl
 · rw [if_neg h1]
   by_cases h2 : wrap64 (n' * d) < wrap64 (n * d')
   · rw [if_pos h2, decide_eq_true h2]; rfl
   · rw [if_neg h2, decide_eq_false h2]; rfl
def firstE : List (List Int) → Int
 | [] => 0
 | l :: ls => if chk l = 0 then firstE ls else chk l
theorem firstE_zero : ∀ ls : List (List Int), (∀ j : Nat, j < ls.length → chk (rd_L3 ls (j : Int)) = 0) → firstE ls = 0
 | [], _ => rfl
 | l :: ls, h => by
  have h0 : chk l = 0 := h 0 (by simp)
  unfold firstE
  rw [if_pos h0]
  refine firstE_zero ls fun j hj => ?_
  have := h (j + 1) (by simpa using hj)
  unfold rd_L3 at this ⊢
  simpa using this
theorem firstE_hit : ∀ (ls : List (List Int)) (i : Nat), i < ls.length → (∀ j : Nat, j < i → chk (rd_L3 ls (j : Int)) = 0) → chk (rd_L3 ls (i : Int)) ≠ 0 → firstE ls = chk (rd_L3 ls (i : Int))
 | l :: ls, 0, _, _, h => by
  have h0 : chk l ≠ 0 := h
  unfold firstE
  rw [if_neg h0]
  rfl
 | l :: ls, i + 1, hi, hj, h => by
  have h0 : chk l = 0 := hj 0 (by omega)
  have e : rd_L3 (l :: ls) ((i + 1 : Nat) : Int) = rd_L3 ls (i : Int) := by unfold rd_L3; simp
  rw [e] at h ⊢
  unfold firstE
  rw [if_pos h0]
  refine firstE_hit ls i (by simpa using hi) (fun j hjj => ?_) h
  have := hj (j + 1) (by omega)
  unfold rd_L3 at this ⊢
  simpa using this
def errJ (ls : List (List Int)) (roll : List Int) (num den : Int) : Int := if ls.length = 0 then 4 else if 12 < ls.length then 5 else if firstE ls = 0 then (if chk roll = 0 then (if isIn 0 num 1000000 = true ∧ isIn 1 den 1000000 = true then 0 else 3) else chk roll) else firstE ls
/-- What is said of a known roll: 0 Open, 1 Other. -/
def verdJ (roll : List Int) (num den : Int) (l : List Int) : Int := if gtJ (chanceI l roll).1 (chanceI l roll).2 num den = true then 0 else 1
/-- The best chance so far, and whose it is. -/
def bestF (ls : List (List Int)) (roll : List Int) : Nat → Int × Int × Int
 | 0 => (-1, 1, 0)
 | i + 1 => if gtJ (chanceI (rd_L3 ls i) roll).1 (chanceI (rd_L3 ls i) roll).2 (bestF ls roll i).1 (bestF ls roll i).2.1 = true then ((chanceI (rd_L3 ls i) roll).1, (chanceI (rd_L3 ls i) roll).2, (i : Int)) else bestF ls roll i
def hand_Judge.f (ls : List (List Int)) (roll : List Int) (num den : Int) : Option (List Int × Int × Int) := some (if errJ ls roll num den = 0 then (ls.map (verdJ roll num den), (bestF ls roll ls.length).2.2, 0) else ([], 0, errJ ls roll num den))
theorem judge_err {ls : List (List Int)} {roll : List Int} {num den : Int} {r1 : List Int} {r2 r3 e : Int} (h : hand_Judge.f ls roll num den = some (r1, r2, r3)) (he : errJ ls roll num den = e) (h0 : e ≠ 0) : r1 = [] ∧ r2 = 0 ∧ r3 = e := by
 have h := Option.some.inj h
 rw [he, if_neg h0] at h
 obtain ⟨g1, h2⟩ := Prod.mk.inj h
 obtain ⟨g2, g3⟩ := Prod.mk.inj h2
 exact ⟨g1.symm, g2.symm, g3.symm⟩
theorem judge_ok {ls : List (List Int)} {roll : List Int} {num den : Int} {r1 : List Int} {r2 r3 : Int} (h : hand_Judge.f ls roll num den = some (r1, r2, r3)) (he : errJ ls roll num den = 0) : r1 = ls.map (verdJ roll num den) ∧ r2 = (bestF ls roll ls.length).2.2 ∧ r3 = 0 := by
 have h := Option.some.inj h
 rw [he, if_pos rfl] at h
 obtain ⟨g1, h2⟩ := Prod.mk.inj h
 obtain ⟨g2, g3⟩ := Prod.mk.inj h2
 exact ⟨g1.symm, g2.symm, g3.symm⟩
theorem take_L3 (ls : List (List Int)) {i : Nat} (h : i < ls.length) : ls.take (i + 1) = ls.take i ++ [rd_L3 ls (i : Int)] := by
 rw [List.take_add_one, List.getElem?_eq_getElem h]
 unfold rd_L3
 rw [Int.toNat_natCast, List.getD_eq_getElem?_getD, List.getElem?_eq_getElem h]
 rfl
theorem OwnI.ne {W : World} {base b : Nat} {v : Value} {xs : List Int} {cs : Array Value} {t : TypeId} (h : OwnI W base v xs) (hb : W.heap[b]? = some (.cells cs t (0, 0))) (ht : t ≠ 3) : v.ownBlock ≠ some b := fun e => by
 rcases h.2 with ⟨h3, _⟩ | ⟨g, cap, cur, rfl, h4, h5, h6⟩
 · rw [h3] at e; cases e
 · obtain rfl : g = b := Option.some.inj e
   have := h5.symm.trans hb
   injection this with this
   injection this with _ h
   exact ht h.symm
theorem bt_calls2 (a x b : Int) (w : World) : Calls Try.prog 62 #[.int .i64 a, .int .i64 x, .int .i64 b] w fun e w' => e = .returned (.bool (isIn a x b)) ∧ Below w.heap.size w w' := (bt_calls a x b w).mono fun _ _ ⟨h1, n, h2⟩ => ⟨h1, by rw [h2]; exact pw_below_drewN (Below.refl _ _) n⟩
set_option maxHeartbeats 4000000 in
set_option maxRecDepth 100000 in
theorem hand_Judge.calls (A : Option Addr) (c : Nat) (ls : List (List Int)) (B : Option Addr) (d : Nat) (roll : List Int) (num den : Int) (r1 : List Int) (r2 r3 : Int) (w : World) (hr : Kd.C (Kd.slice 3 (Kd.int .i64)) w A ls.length ls) (hc : ls.length ≤ c) (hr2 : Kd.C (Kd.int .i64) w B roll.length roll) (hc2 : roll.length ≤ d) (h : hand_Judge.f ls roll num den = some (r1, r2, r3)) :
  Calls Try.prog 30 #[.slice A ls.length c, .slice B roll.length d, .agg #[.int .i64 num, .int .i64 den]] w fun e w' => ∃ v, e = .returned (.tuple #[v, .int .i64 r2, .int .i64 r3]) ∧ Kd.R (Kd.int .i64) 3 w' w.heap.size (fun _ => True) v r1 ∧ Below w.heap.size w w' := by
 have hu34 := Try.underlying34
 have hm1 := Kd.C_max hr
 have HR := Aside0.mk hr
 have HR2 := Aside0.mk hr2
 have HH := Aside0.mk h
 have HB0 := Aside0.mk (below_alloc (Below.refl w.heap.size w) (.cells #[.int .i64 num, .int .i64 den] 34))
 have HK0 := Aside0.mk (blk_new w (.cells #[.int .i64 num, .int .i64 den] 34))
 clear hr hr2 h
 by_cases h0 : ls.length = 0
 · have z1 : ((ls.length : Int) == 0) = true := by simp [h0]
   obtain ⟨g1, g2, g3⟩ := judge_err HH.out (e := 4) (by unfold errJ; rw [if_pos h0]) (by decide)
   subst g1 g2 g3
   go_enter Try.func30, Try.ntmps30
   go_wp2
   refine bodyPost_ret (results_list (rs := [.tmp 6, .tmp 7, .tmp 8]) rfl (by simp) (.tmp (.tmp (.tmp .nil)))) rfl ?_
   exact ⟨_, rfl, Kd.R_nil _ _ _ _ _, HB0.out⟩
 · have z1 : ((ls.length : Int) == 0) = false := by simp only [beq_eq_false_iff_ne, ne_eq]; omega
   by_cases h12 : 12 < ls.length
   · have y1 : decide ((12 : Int) < (ls.length : Int)) = true := decide_eq_true (by omega)
     obtain ⟨g1, g2, g3⟩ := judge_err HH.out (e := 5) (by unfold errJ; rw [if_neg h0, if_pos h12]) (by decide)
     subst g1 g2 g3
     go_enter Try.func30, Try.ntmps30
     go_wp2
     refine bodyPost_ret (results_list (rs := [.tmp 6, .tmp 7, .tmp 8]) rfl (by simp) (.tmp (.tmp (.tmp .nil)))) rfl ?_
     exact ⟨_, rfl, Kd.R_nil _ _ _ _ _, HB0.out⟩
   · have y1 : decide ((12 : Int) < (ls.length : Int)) = false := decide_eq_false (by omega)
     have HE := Aside0.mk (show errJ ls roll num den = if firstE ls = 0 then (if chk roll = 0 then (if isIn 0 num 1000000 = true ∧ isIn 1 den 1000000 = true then 0 else 3) else chk roll) else firstE ls by unfold errJ; rw [if_neg h0, if_neg h12])
     have HL := Aside0.mk (show 0 < ls.length ∧ ls.length ≤ 12 by omega)
     go_enter Try.func30, Try.ntmps30
     go_wp2
     have hs1 : (w.alloc (.cells #[.int .i64 num, .int .i64 den] 34)).heap.size = w.heap.size + 1 := by simp
     generalize w.alloc (.cells #[.int .i64 num, .int .i64 den] 34) = w0 at HB0 HK0 hs1 ⊢
     clear z1 y1 h0 h12
     have HBR := Aside0.mk (Below.refl w0.heap.size w0)
     go_loopw [6, 7, 28] (fun s6 s7 s28 wr => ∃ i : Nat, s6 = .slice none 0 0 ∧ s7 = .int .i64 0 ∧ s28 = .int .i64 i ∧ Aside0 (i ≤ ls.length ∧ ∀ j : Nat, j < i → chk (rd_L3 ls (j : Int)) = 0) ∧ Aside0 (Below w0.heap.size w0 wr)) (fun _ _ s28 _ => ls.length - (intOf s28).toNat)
     case atStart => exact ⟨0, rfl, rfl, rfl, ⟨Nat.zero_le _, fun j hj => absurd hj (Nat.not_lt_zero _)⟩, HBR⟩
     case round =>
      clear HBR
      obtain ⟨i, rfl, rfl, rfl, HI, HBR⟩ := hrel
      rename World => wr
      have HWR := Aside0.mk (below_then HB0.out HB0.out.size HBR.out)
      by_cases hlt : i < ls.length
      · have hd1 : decide ((i : Int) < (ls.length : Int)) = true := decide_eq_true (by omega)
        have p1 : (0 : Int) ≤ (i : Int) := by omega
        have p2 : (i : Int) < (ls.length : Int) := by omega
        obtain ⟨ad, A3, c3, had, xc, hc3, hC3⟩ := at_L3 (Kd.C_below HR.out HWR.out) (i : Int) p1 p2
        cases had
        rw [Int.toNat_natCast] at xc
        have HC3 := Aside0.mk hC3
        have HJ1 := Aside0.mk (show wrap64 ((i : Int) + 1) = ((i + 1 : Nat) : Int) by have := HL.out; rw [w64' _ (by omega) (by omega)]; rfl)
        have HIL := Aside0.mk hlt
        have HHIT := Aside0.mk (firstE_hit ls i hlt HI.out.2)
        have HNXT := Aside0.mk (show chk (rd_L3 ls (i : Int)) = 0 → ∀ j : Nat, j < i + 1 → chk (rd_L3 ls (j : Int)) = 0 from fun h j hj => by
         by_cases e : j = i
         · rw [e]; exact h
         · exact HI.out.2 j (by omega))
        clear hlt hC3
        generalize rd_L3 ls (i : Int) = l at xc HC3 hc3 HHIT HNXT
        obtain ⟨q, hq⟩ : ∃ q, chk l = q := ⟨_, rfl⟩
        have HQ := Aside0.mk hq
        rw [hq] at HHIT HNXT
        go_wp2_with fail
        refine (hand_Check.calls A3 c3 l q _ HC3.out hc3 (congrArg some hq)).mono ?_
        rintro e w3 ⟨rfl, hb3⟩
        have HB3 := Aside0.mk hb3
        clear hb3 hq xc
        by_cases hq0 : q = 0
        · have z2 : (q == 0) = true := beq_iff_eq.2 hq0
          have z3 : (q != 0) = false := by simp [hq0]
          have HN := Aside0.mk (HNXT.out hq0)
          clear hq0
          go_wp2
          refine ⟨⟨i + 1, rfl, rfl, by first | rfl | exact congrArg _ HJ1.out, ⟨HIL.out, HN.out⟩, ⟨below_then HBR.out HBR.out.size HB3.out⟩⟩, ?_⟩
          have := HIL.out
          first | (show ls.length - ((i : Int) + 1).toNat < ls.length - ((i : Int)).toNat; omega) | (rw [HJ1.out]; show ls.length - (((i + 1 : Nat) : Int)).toNat < ls.length - ((i : Int)).toNat; omega)
        · have z2 : (q == 0) = false := beq_false_of_ne hq0
          have z3 : (q != 0) = true := by simp [hq0]
          have hf := HHIT.out hq0
          obtain ⟨g1, g2, g3⟩ := judge_err HH.out (e := q) (by rw [HE.out, if_neg (by rw [hf]; exact hq0), hf]) hq0
          subst g1 g2 g3
          clear hf
          go_wp2
          refine bodyPost_ret (results_list (rs := [.tmp 6, .tmp 7, .tmp 8]) rfl (by simp) (.tmp (.tmp (.tmp .nil)))) rfl ?_
          exact ⟨_, rfl, Kd.R_nil _ _ _ _ _, below_then HWR.out HWR.out.size HB3.out⟩
      · have hd1 : decide ((i : Int) < (ls.length : Int)) = false := decide_eq_false (by omega)
        obtain rfl : i = ls.length := by have := HI.out; omega
        have HF := Aside0.mk (firstE_zero ls HI.out.2)
        have HALL := Aside0.mk HI.out.2
        obtain ⟨q, hq⟩ : ∃ q, chk roll = q := ⟨_, rfl⟩
        have HQ := Aside0.mk hq
        have HKR := Aside0.mk (blk_below2 HBR.out HK0.out)
        go_wp2_with fail
        refine (hand_Check.calls B d roll q _ (Kd.C_below HR2.out HWR.out) hc2 (congrArg some hq)).mono ?_
        rintro e w3 ⟨rfl, hb3⟩
        have HW3 := Aside0.mk (below_then HWR.out HWR.out.size hb3)
        have hk3 := blk_below2 hb3 HKR.out
        have HK3 := Aside0.mk hk3
        clear hb3 hq HKR HBR hlt
        by_cases hq0 : q = 0
        · have z2 : (q == 0) = true := beq_iff_eq.2 hq0
          have z3 : (q != 0) = false := by simp [hq0]
          subst hq0
          have k0 : w3.cell? ⟨w.heap.size, 0, none⟩ = some (.int .i64 num) := (blk_cell hk3 0).trans rfl
          have k1 : w3.cell? ⟨w.heap.size, 1, none⟩ = some (.int .i64 den) := (blk_cell hk3 1).trans rfl
          cases hi1 : isIn 0 num 1000000 with
          | false =>
           obtain ⟨g1, g2, g3⟩ := judge_err HH.out (e := 3) (by rw [HE.out, if_pos HF.out, if_pos HQ.out, hi1, if_neg (by simp)]) (by decide)
           subst g1 g2 g3
           go_wp2_with fail
           refine (bt_calls2 0 num 1000000 _).mono ?_
           rintro e w4 ⟨rfl, hb4⟩
           rw [hi1]
           have HW4 := Aside0.mk (HW3.out.trans (hb4.mono HW3.out.size))
           have k1' : w4.cell? ⟨w.heap.size, 1, none⟩ = some (.int .i64 den) := (blk_cell (blk_below2 hb4 HK3.out) 1).trans rfl
           have HK4 := Aside0.mk (blk_below2 hb4 HK3.out)
           clear hb4 k0 k1
           go_wp2
           refine bodyPost_ret (results_list (rs := [.tmp 6, .tmp 7, .tmp 8]) rfl (by simp) (.tmp (.tmp (.tmp .nil)))) rfl ?_
           exact ⟨_, rfl, Kd.R_nil _ _ _ _ _, HW4.out⟩
          | true =>
           cases hi2 : isIn 1 den 1000000 with
           | false =>
            obtain ⟨g1, g2, g3⟩ := judge_err HH.out (e := 3) (by rw [HE.out, if_pos HF.out, if_pos HQ.out, hi1, hi2, if_neg (by simp)]) (by decide)
            subst g1 g2 g3
            go_wp2_with fail
            refine (bt_calls2 0 num 1000000 _).mono ?_
            rintro e w4 ⟨rfl, hb4⟩
            rw [hi1]
            have HW4 := Aside0.mk (HW3.out.trans (hb4.mono HW3.out.size))
            have k1' : w4.cell? ⟨w.heap.size, 1, none⟩ = some (.int .i64 den) := (blk_cell (blk_below2 hb4 HK3.out) 1).trans rfl
            have HK4 := Aside0.mk (blk_below2 hb4 HK3.out)
            clear hb4 k0 k1
            go_wp2_with fail
            refine (bt_calls2 1 den 1000000 _).mono ?_
            rintro e w5 ⟨rfl, hb5⟩
            rw [hi2]
            have HW5 := Aside0.mk (HW4.out.trans (hb5.mono HW4.out.size))
            have HK5 := Aside0.mk (blk_below2 hb5 HK4.out)
            clear hb5 k1'
            go_wp2
            refine bodyPost_ret (results_list (rs := [.tmp 6, .tmp 7, .tmp 8]) rfl (by simp) (.tmp (.tmp (.tmp .nil)))) rfl ?_
            exact ⟨_, rfl, Kd.R_nil _ _ _ _ _, HW5.out⟩
           | true =>
            obtain ⟨g1, g2, g3⟩ := judge_ok HH.out (by rw [HE.out, if_pos HF.out, if_pos HQ.out, hi1, hi2, if_pos (by simp)])
            subst g3
            have HG := Aside0.mk (And.intro g1 g2)
            clear g1 g2
            go_wp2_with fail
            refine (bt_calls2 0 num 1000000 _).mono ?_
            rintro e w4 ⟨rfl, hb4⟩
            rw [hi1]
            have HW4 := Aside0.mk (HW3.out.trans (hb4.mono HW3.out.size))
            have k1' : w4.cell? ⟨w.heap.size, 1, none⟩ = some (.int .i64 den) := (blk_cell (blk_below2 hb4 HK3.out) 1).trans rfl
            have HK4 := Aside0.mk (blk_below2 hb4 HK3.out)
            clear hb4 k0 k1
            go_wp2_with fail
            refine (bt_calls2 1 den 1000000 _).mono ?_
            rintro e w5 ⟨rfl, hb5⟩
            rw [hi2]
            have HW5 := Aside0.mk (HW4.out.trans (hb5.mono HW4.out.size))
            have HK5 := Aside0.mk (blk_below2 hb5 HK4.out)
            clear hb5 k1'
            go_wp2
            have hb6 := below_alloc (Below.refl w5.heap.size w5) (.cells #[.int .i64 (-1), .int .i64 1] 34)
            have HW6 := Aside0.mk (HW5.out.trans (hb6.mono HW5.out.size))
            have HK6 := Aside0.mk (blk_below2 hb6 HK5.out)
            have HX6 := Aside0.mk (blk_new w5 (.cells #[.int .i64 (-1), .int .i64 1] 34))
            have HBX := Aside0.mk (show w.heap.size < w5.heap.size from blk_lt2 HK5.out)
            obtain ⟨bx, hbx⟩ : ∃ bx, bx = w5.heap.size := ⟨_, rfl⟩
            rw [← hbx] at HX6 HBX ⊢
            generalize w5.alloc (.cells #[.int .i64 (-1), .int .i64 1] 34) = w6 at HW6 HK6 HX6 ⊢
            clear hb6 hbx HK5 HW5 HK4 HW4 HK3 HW3
            go_loopw [6, 7, 56] (fun s6 s7 s56 wr => ∃ (i : Nat) (v : Value), v = s6 ∧ s7 = .int .i64 (bestF ls roll i).2.2 ∧ s56 = .int .i64 i ∧ Aside0 (i ≤ ls.length) ∧ Aside0 (OwnI wr w.heap.size v ((ls.take i).map (verdJ roll num den))) ∧ Aside0 (wr.heap[bx]? = some (.cells #[.int .i64 (bestF ls roll i).1, .int .i64 (bestF ls roll i).2.1] 34 (0, 0))) ∧ Aside0 (wr.heap[w.heap.size]? = some (.cells #[.int .i64 num, .int .i64 den] 34 (0, 0))) ∧ Aside0 (Below w.heap.size w wr)) (fun _ _ s56 _ => ls.length - (intOf s56).toNat)
            case atStart => exact ⟨0, _, rfl, rfl, rfl, ⟨Nat.zero_le _⟩, ⟨OwnI.nil⟩, HX6, HK6, HW6⟩
            case round =>
             clear HX6 HK6 HW6
             obtain ⟨i, v, rfl, rfl, rfl, HI, HO, HX, HK, HW⟩ := hrel
             rename World => wr
             by_cases hlt : i < ls.length
             · have hd1 : decide ((i : Int) < (ls.length : Int)) = true := decide_eq_true (by omega)
               have p1 : (0 : Int) ≤ (i : Int) := by omega
               have p2 : (i : Int) < (ls.length : Int) := by omega
               obtain ⟨ad, A3, c3, had, xc, hc3, hC3⟩ := at_L3 (Kd.C_below HR.out HW.out) (i : Int) p1 p2
               cases had
               rw [Int.toNat_natCast] at xc
               have HC3 := Aside0.mk hC3
               have HJ1 := Aside0.mk (show wrap64 ((i : Int) + 1) = ((i + 1 : Nat) : Int) by have := HL.out; rw [w64' _ (by omega) (by omega)]; rfl)
               have HIL := Aside0.mk hlt
               have HCK := Aside0.mk (HALL.out i hlt)
               have HT := Aside0.mk (show (ls.take (i + 1)).map (verdJ roll num den) = (ls.take i).map (verdJ roll num den) ++ [verdJ roll num den (rd_L3 ls i)] by rw [take_L3 ls hlt, List.map_append]; rfl)
               have HBF := Aside0.mk (show bestF ls roll (i + 1) = if gtJ (chanceI (rd_L3 ls i) roll).1 (chanceI (rd_L3 ls i) roll).2 (bestF ls roll i).1 (bestF ls roll i).2.1 = true then ((chanceI (rd_L3 ls i) roll).1, (chanceI (rd_L3 ls i) roll).2, (i : Int)) else bestF ls roll i from rfl)
               have HVL := Aside0.mk (show ((ls.take i).map (verdJ roll num den)).length ≤ 1000 by rw [List.length_map, List.length_take]; have := HL.out; omega)
               clear hlt hC3
               generalize rd_L3 ls (i : Int) = l at xc HC3 hc3 HCK HT HBF
               generalize (ls.take i).map (verdJ roll num den) = V at HO HT HVL
               have hl16 := (chk_len HCK.out).2
               have hr16 := (chk_len HQ.out).2
               have m2 := mul_in (x := (l.length : Int)) (y := (roll.length : Int)) (p := 16) (q := 16) ⟨by omega, by omega⟩ ⟨by omega, by omega⟩
               have HM1 := Aside0.mk (show wrap64 ((l.length : Int) * (roll.length : Int)) = (l.length : Int) * (roll.length : Int) from w64' _ (Int.le_trans (by omega) m2.1) (Int.le_trans m2.2 (by omega)))
               have HMI := Aside0.mk (show -1000000 ≤ (l.length : Int) * (roll.length : Int) ∧ (l.length : Int) * (roll.length : Int) ≤ 1000000 from ⟨Int.le_trans (by omega) m2.1, Int.le_trans m2.2 (by omega)⟩)
               have HOW := Aside0.mk (show -1000000 ≤ beatsI l roll ∧ beatsI l roll ≤ 1000000 from ⟨Int.le_trans (by omega) (beats_small l roll hl16 hr16).1, Int.le_trans (beats_small l roll hl16 hr16).2 (by omega)⟩)
               have HP := Aside0.mk (chF_sum l roll (fun x => decide (farI (beatsI l roll) ((l.length : Int) * roll.length) ≤ farI x ((l.length : Int) * roll.length))))
               have HTP := Aside0.mk (And.intro (cntB_pos l roll (fun _ => true) rfl) (Nat.le_trans (cnt_small l roll (fun _ => true) hl16 hr16) (by decide : 4294967296 ≤ 4611686018427387904)))
               have HCI := Aside0.mk (show chanceI l roll = lowI (cntB l roll fun x => decide (farI (beatsI l roll) ((l.length : Int) * roll.length) ≤ farI x ((l.length : Int) * roll.length))) (cntB l roll fun _ => true) from rfl)
               have HVJ := Aside0.mk (show verdJ roll num den l = if gtJ (chanceI l roll).1 (chanceI l roll).2 num den = true then 0 else 1 from rfl)
               clear m2
               go_wp2_with fail
               refine (choices_calls A3 c3 l B d roll _ HC3.out hc3 hl16 (Kd.C_below HR2.out HW.out) hc2 hr16).mono ?_
               rintro e w7 ⟨m, n, rfl, hM, hb7⟩
               have HM := Aside0.mk hM
               have HC37 := Aside0.mk (Kd.C_below HC3.out hb7)
               have HO7 := Aside0.mk (HO.out.below hb7)
               have HX7 := Aside0.mk (blk_below2 hb7 HX.out)
               have HK7 := Aside0.mk (blk_below2 hb7 HK.out)
               have HW7 := Aside0.mk (HW.out.trans (hb7.mono HW.out.size))
               clear hM hb7 xc HO HX HK HW HC3
               have hm1 := HM1.out
               go_wp2_with fail
               clear hm1
               refine (beats_calls A3 c3 l B d roll _ HC37.out hc3 (by omega) (Kd.C_below HR2.out HW7.out) hc2 (by omega)).mono ?_
               rintro e w8 ⟨rfl, hb8⟩
               generalize beatsI l roll = own at HOW HP HCI ⊢
               have HM8 := Aside0.mk (HM.out.below hb8)
               have HO8 := Aside0.mk (HO7.out.below hb8)
               have HX8 := Aside0.mk (blk_below2 hb8 HX7.out)
               have HK8 := Aside0.mk (blk_below2 hb8 HK7.out)
               have HW8 := Aside0.mk (HW7.out.trans (hb8.mono HW7.out.size))
               clear hb8 HM HO7 HX7 HK7 HW7 HC37
               go_wp2_with fail
               rw [HM1.out]
               refine (chance_calls kInt rfl (fun _ => rfl) kInt_o m n (chF l roll) ((l.length : Int) * roll.length) own (beatsU l roll) _ _ _ HM8.out (beatsU_nodup l roll) (chF_sup l roll) (chF_ok l roll hl16 hr16) (chF_pos l roll) (chF_all l roll) HP.out HTP.out.1 HTP.out.2 HMI.out HOW.out).mono ?_
               rintro e w9 ⟨rfl, hb9⟩
               rw [← HCI.out]
               clear HP HTP HCI HM1 HMI HOW
               generalize chanceI l roll = C at HBF HVJ ⊢
               obtain ⟨cn, cd⟩ := C
               dsimp only at HBF HVJ ⊢
               generalize verdJ roll num den l = vd at HT HVJ
               have hal := below_alloc (Below.refl w9.heap.size w9) (.cells #[.int .i64 cn, .int .i64 cd] 34)
               have hba := hb9.trans (hal.mono hb9.size)
               have HO9 := Aside0.mk (HO8.out.below hba)
               have HX9 := Aside0.mk (blk_below2 hba HX8.out)
               have HK9 := Aside0.mk (blk_below2 hba HK8.out)
               have HW9 := Aside0.mk (HW8.out.trans (hba.mono HW8.out.size))
               have HC9 := Aside0.mk (blk_new w9 (.cells #[.int .i64 cn, .int .i64 cd] 34))
               have HCX := Aside0.mk (show w9.heap.size ≠ bx by have h1 := blk_lt2 HX8.out; have h2 := hb9.size; omega)
               clear hal hba hb9 HM8 HO8 HX8 HK8 HW8
               obtain ⟨bc, hbc⟩ : ∃ bc, bc = w9.heap.size := ⟨_, rfl⟩
               rw [← hbc] at HC9 HCX
               generalize hwa : w9.alloc (.cells #[.int .i64 cn, .int .i64 cd] 34) = wa at HO9 HX9 HK9 HW9 HC9
               have k0 : wa.cell? ⟨w.heap.size, 0, none⟩ = some (.int .i64 num) := (blk_cell HK9.out 0).trans rfl
               have k1 : wa.cell? ⟨w.heap.size, 1, none⟩ = some (.int .i64 den) := (blk_cell HK9.out 1).trans rfl
               have x0 : wa.cell? ⟨bc, 0, none⟩ = some (.int .i64 cn) := (blk_cell HC9.out 0).trans rfl
               have x1 : wa.cell? ⟨bc, 1, none⟩ = some (.int .i64 cd) := (blk_cell HC9.out 1).trans rfl
               go_upto_region 22 with fail
               try rw [hwa]
               rw [← hbc]
               clear hwa hbc
               go_wp2_with fail
               refine (comp_calls cn cd num den _).mono ?_
               rintro e wb ⟨rfl, hbb⟩
               clear k0 k1 x0 x1
               have HO10 := Aside0.mk (HO9.out.below hbb)
               have HX10 := Aside0.mk (blk_below2 hbb HX9.out)
               have HK10 := Aside0.mk (blk_below2 hbb HK9.out)
               have HC10 := Aside0.mk (blk_below2 hbb HC9.out)
               have HW10 := Aside0.mk (HW9.out.trans (hbb.mono HW9.out.size))
               clear hbb HO9 HX9 HK9 HW9 HC9
               have hgt := cmpJ_gt cn cd num den
               generalize cmpJ cn cd num den = t1 at hgt ⊢
               obtain ⟨g1, hg1⟩ : ∃ g1, gtJ cn cd num den = g1 := ⟨_, rfl⟩
               rw [hg1] at hgt HVJ
               generalize hbb2 : bestF ls roll i = bst at HX10 HBF ⊢
               obtain ⟨bn, bd, bi⟩ := bst
               dsimp only at HX10 HBF ⊢
               obtain ⟨g2, hg2⟩ : ∃ g2, gtJ cn cd bn bd = g2 := ⟨_, rfl⟩
               rw [hg2] at HBF
               have HG2 := Aside0.mk hg2
               clear hg1 hg2
               go_upto_if 76 with fail
               go_cut [17] (fun s17 wc => s17 = .int .i64 vd ∧ wb = wc)
               case first =>
                cases g1 with
                | true =>
                 simp only [if_true] at HVJ
                 have hv0 := HVJ.out
                 go_wp2
                 go_meet
                 exact ⟨by rw [hv0], rfl⟩
                | false =>
                 simp only [Bool.false_eq_true, if_false] at HVJ
                 have hv0 := HVJ.out
                 go_wp2
                 go_meet
                 exact ⟨by rw [hv0], rfl⟩
               case rest =>
                obtain ⟨rfl, rfl⟩ := hcut
                clear hgt HVJ
                have hb11 := below_alloc (Below.refl wb.heap.size wb) (.cells #[.int .i64 vd] 3)
                have HO11 := Aside0.mk (HO10.out.below hb11)
                have HX11 := Aside0.mk (blk_below2 hb11 HX10.out)
                have HK11 := Aside0.mk (blk_below2 hb11 HK10.out)
                have HC11 := Aside0.mk (blk_below2 hb11 HC10.out)
                have HW11 := Aside0.mk (HW10.out.trans (hb11.mono HW10.out.size))
                clear hb11 HO10 HX10 HK10 HC10 HW10
                go_wp2_with (at_builtin; refine Aside0.out ?_)
                refine ⟨?_⟩
                refine wpList_append_OwnI 22 und22 rfl _ _ rfl w.heap.size v V [vd] rfl HO11.out ⟨wb.heap.size, 0, none⟩ 1 1 rfl rfl (one_cell wb vd 3) (by have := HVL.out; omega) HW11.out.size ?_
                intro v' w12 hO12 hb12 hg12 ho12
                have HO12 := Aside0.mk hO12
                have HX12 := Aside0.mk ((hg12.block _ (blk_lt2 HX11.out) (fun e => HO11.out.ne HX11.out (by decide) e.symm)).trans HX11.out)
                have HK12 := Aside0.mk ((hg12.block _ (blk_lt2 HK11.out) (fun e => HO11.out.ne HK11.out (by decide) e.symm)).trans HK11.out)
                have HC12 := Aside0.mk ((hg12.block _ (blk_lt2 HC11.out) (fun e => HO11.out.ne HC11.out (by decide) e.symm)).trans HC11.out)
                have HW12 := Aside0.mk (HW11.out.trans hb12)
                clear hO12 hb12 hg12 ho12 HO11 HX11 HK11 HC11 HW11
                have x0 : w12.cell? ⟨bc, 0, none⟩ = some (.int .i64 cn) := (blk_cell HC12.out 0).trans rfl
                have x1 : w12.cell? ⟨bc, 1, none⟩ = some (.int .i64 cd) := (blk_cell HC12.out 1).trans rfl
                have y0 : w12.cell? ⟨bx, 0, none⟩ = some (.int .i64 bn) := (blk_cell HX12.out 0).trans rfl
                have y1 : w12.cell? ⟨bx, 1, none⟩ = some (.int .i64 bd) := (blk_cell HX12.out 1).trans rfl
                go_wp2_with fail
                refine (comp_calls cn cd bn bd _).mono ?_
                rintro e wd ⟨rfl, hbd⟩
                clear x0 x1 y0 y1
                have HO13 := Aside0.mk (HO12.out.below hbd)
                have HX13 := Aside0.mk (blk_below2 hbd HX12.out)
                have HK13 := Aside0.mk (blk_below2 hbd HK12.out)
                have HC13 := Aside0.mk (blk_below2 hbd HC12.out)
                have HW13 := Aside0.mk (HW12.out.trans (hbd.mono HW12.out.size))
                clear hbd HO12 HX12 HK12 HC12 HW12
                have hgt := cmpJ_gt cn cd bn bd
                generalize cmpJ cn cd bn bd = t2 at hgt ⊢
                rw [HG2.out] at hgt
                cases g2 with
                | true =>
                 simp only [if_true] at HBF
                 have x0 : wd.cell? ⟨bc, 0, none⟩ = some (.int .i64 cn) := (blk_cell HC13.out 0).trans rfl
                 have x1 : wd.cell? ⟨bc, 1, none⟩ = some (.int .i64 cd) := (blk_cell HC13.out 1).trans rfl
                 have y0 : wd.cell? ⟨bx, 0, none⟩ = some (.int .i64 bn) := (blk_cell HX13.out 0).trans rfl
                 have y1 : wd.cell? ⟨bx, 1, none⟩ = some (.int .i64 bd) := (blk_cell HX13.out 1).trans rfl
                 have f0 := blk_frozen HX13.out 0
                 have f1 := blk_frozen HX13.out 1
                 have HBL := Aside0.mk (show w.heap.size ≤ bx by have := HBX.out; omega)
                 have HX14 := Aside0.mk (show ((wd.setCell ⟨bx, 0, none⟩ (.int .i64 cn)).setCell ⟨bx, 1, none⟩ (.int .i64 cd)).heap[bx]? = some (.cells #[.int .i64 cn, .int .i64 cd] 34 (0, 0)) from by refine blk_put (cs := #[.int .i64 cn, .int .i64 bd]) ?_ 1 _ rfl; refine blk_put (cs := #[.int .i64 bn, .int .i64 bd]) ?_ 0 _ rfl; exact HX13.out)
                 have HK14 := Aside0.mk (show ((wd.setCell ⟨bx, 0, none⟩ (.int .i64 cn)).setCell ⟨bx, 1, none⟩ (.int .i64 cd)).heap[w.heap.size]? = some (.cells #[.int .i64 num, .int .i64 den] 34 (0, 0)) from by rw [Below.heap_setCell _ _ _ _ (show w.heap.size ≠ bx by have := HBX.out; omega), Below.heap_setCell _ _ _ _ (show w.heap.size ≠ bx by have := HBX.out; omega)]; exact HK13.out)
                 have HO14 := Aside0.mk (show OwnI ((wd.setCell ⟨bx, 0, none⟩ (.int .i64 cn)).setCell ⟨bx, 1, none⟩ (.int .i64 cd)) w.heap.size v' (V ++ [vd]) from own_keptI HO13.out fun j cur e hj => by
                  have hne : j ≠ bx := fun h => HO13.out.ne HX13.out (by decide) (by rw [← h]; exact e)
                  rw [Below.heap_setCell _ _ _ _ hne, Below.heap_setCell _ _ _ _ hne]
                  exact hj)
                 have HW14 := Aside0.mk (show Below w.heap.size w ((wd.setCell ⟨bx, 0, none⟩ (.int .i64 cn)).setCell ⟨bx, 1, none⟩ (.int .i64 cd)) from below_set (below_set HW13.out HBL.out) HBL.out)
                 clear HO13 HX13 HK13 HC13 HW13
                 go_wp2
                 refine ⟨⟨i + 1, v', rfl, by rw [HBF.out], by first | rfl | exact congrArg _ HJ1.out, ⟨HIL.out⟩, ⟨by rw [HT.out]; exact HO14.out⟩, ⟨by rw [HBF.out]; exact HX14.out⟩, HK14, HW14⟩, ?_⟩
                 have := HIL.out
                 first | (show ls.length - ((i : Int) + 1).toNat < ls.length - ((i : Int)).toNat; omega) | (rw [HJ1.out]; show ls.length - (((i + 1 : Nat) : Int)).toNat < ls.length - ((i : Int)).toNat; omega)
                | false =>
                 simp only [Bool.false_eq_true, if_false] at HBF
                 go_wp2
                 refine ⟨⟨i + 1, v', rfl, by rw [HBF.out], by first | rfl | exact congrArg _ HJ1.out, ⟨HIL.out⟩, ⟨by rw [HT.out]; exact HO13.out⟩, ⟨by rw [HBF.out]; exact HX13.out⟩, HK13, HW13⟩, ?_⟩
                 have := HIL.out
                 first | (show ls.length - ((i : Int) + 1).toNat < ls.length - ((i : Int)).toNat; omega) | (rw [HJ1.out]; show ls.length - (((i + 1 : Nat) : Int)).toNat < ls.length - ((i : Int)).toNat; omega)
             · have hd1 : decide ((i : Int) < (ls.length : Int)) = false := decide_eq_false (by omega)
               obtain rfl : i = ls.length := by have := HI.out; omega
               have ho := HO.out
               rw [List.take_length, ← HG.out.1] at ho
               have HO2 := Aside0.mk ho
               clear ho hlt
               rw [← HG.out.2]
               go_wp2
               refine bodyPost_ret (results_list (rs := [.tmp 6, .tmp 7, .tmp 8]) rfl (by simp) (.tmp (.tmp (.tmp .nil)))) rfl ?_
               exact ⟨_, rfl, HO2.out.R, HW.out⟩
        · have z2 : (q == 0) = false := beq_false_of_ne hq0
          have z3 : (q != 0) = true := by simp [hq0]
          obtain ⟨g1, g2, g3⟩ := judge_err HH.out (e := q) (by rw [HE.out, if_pos HF.out, HQ.out, if_neg hq0]) hq0
          subst g1 g2 g3
          go_wp2
          refine bodyPost_ret (results_list (rs := [.tmp 6, .tmp 7, .tmp 8]) rfl (by simp) (.tmp (.tmp (.tmp .nil)))) rfl ?_
          exact ⟨_, rfl, Kd.R_nil _ _ _ _ _, HW3.out⟩

end Go.Proofs.Ythddeillkdediaa.H
