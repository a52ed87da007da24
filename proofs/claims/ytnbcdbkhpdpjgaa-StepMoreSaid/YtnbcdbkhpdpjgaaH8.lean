/- step.choose: the first list of k elements for which something holds. -/
import Derived.Test.YtnbcdbkhpdpjgaaH7
import Derived.ArgAppend
import Derived.Deep.RegionLawGrows
import Derived.Laws.EntriesVeiled
namespace Go.Proofs.Ytnbcdbkhpdpjgaa.H
open Go.RowKit Go.Proofs.YtnbcdbkhpdpjgaaW.PrintWords Go.Proofs.YtnbcdbkhpdpjgaaW.PrintLast Go.Proofs.YtnbcdbkhpdpjgaaW.PrintMore
open Go.Shelf Go.Proofs.Ytnbcdbkhpdpjgaa.QA
set_option linter.unusedVariables false
set_option linter.unusedSimpArgs false

theorem clip (A : Option Addr) (n c : Nat) (h : n ≤ c) (hn : A = none → n = 0 ∧ c = 0) (w : World) : Calls Try.prog 73 #[.slice A n c] w fun e w' => e = .returned (.slice A n n) ∧ Drawn0 w w' := by
  have hu := Try.underlying34
  cases A with
  | none =>
    obtain ⟨rfl, rfl⟩ := hn rfl
    go_enter Try.func73, Try.ntmps73
    go_wp2
    go_ret
    exact ⟨rfl, Drawn0.refl _⟩
  | some a =>
    have h1 : decide ((n : Int) ≤ (c : Int)) = true := decide_eq_true (by omega)
    go_enter Try.func73, Try.ntmps73
    go_wp2
    go_ret
    exact ⟨rfl, Drawn0.refl _⟩

def srchLoop (k : Nat) (h : List Int → Bool) : List Int → List Int → Option (List Int)
  | _, [] => none
  | b, x :: rest => match (if (b ++ [x]).length = k then (if h (b ++ [x]) = true then some (b ++ [x]) else none) else srchLoop k h (b ++ [x]) rest) with
    | some r => some r
    | none => srchLoop k h b rest
def srch (k : Nat) (h : List Int → Bool) (b rest : List Int) : Option (List Int) := if b.length = k then (if h b = true then some b else none) else srchLoop k h b rest
theorem srchLoop_cons (k : Nat) (h : List Int → Bool) (b : List Int) (x : Int) (rest : List Int) : srchLoop k h b (x :: rest) = (srch k h (b ++ [x]) rest).or (srchLoop k h b rest) := by
  rw [srchLoop]
  unfold srch
  split <;> rename_i e <;> rw [e] <;> rfl

def step_choose.T7 : Bool × List (List Nat × List Nat) := (true, [([], []), ([], []), ([1], [1]), ([], []), ([3], [3]), ([2, 4, 2], [2, 4]), ([], []), ([], []), ([7], [7]), ([6, 8], [6, 8]), ([0, 5, 9, 5], [0, 5, 9])])
def step_choose.B7 : List Nat := [0, 0, 2, 0, 8, 30, 0, 0, 128, 448, 1023]
theorem step_choose.tab7 : rtab .any (opsOf Try.f72 7) = step_choose.T7 := by kernel_rfl
theorem step_choose.bits7 : waitsOk step_choose.T7.2 step_choose.B7 = true := by kernel_rfl

/-- What is asked of a function value that looks at a list. -/
def HoldsL (g : Nat) (lb : Array Value) (h : List Int → Bool) (E : Int → Prop) (w0 : World) : Prop :=
  ∀ (W : World) (A : Option Addr) (c : Nat) (b : List Int), (∀ x ∈ b, E x) → b.length ≤ 100000 → Below w0.heap.size w0 W → Kd.C (Kd.int .i64) W A b.length b → b.length ≤ c →
    Calls Try.prog g (#[.slice A b.length c] ++ lb) W fun e w' => e = .returned (.bool (h b)) ∧ Below W.heap.size W w'

/-- What the search leaves: its own variable may be turned, else nothing that lay; a list that was found lies in that variable. -/
def Found (Bf : Nat) (W : World) (res : Option (List Int)) (e : Ending) (w' : World) : Prop :=
  e = .returned (.bool res.isSome) ∧ W.grownBy w' (some Bf) ∧ (∃ v, w'.heap[Bf]? = some (.cells #[v] 34 (0, 0))) ∧
    ∀ r, res = some r → ∃ A c, w'.heap[Bf]? = some (.cells #[.slice A r.length c] 34 (0, 0)) ∧ r.length ≤ c ∧ Kd.F (Kd.int .i64) w' (fun k => k ≠ Bf) A r.length r

theorem F_grown {W w' : World} {Bf : Nat} {A : Option Addr} {l : List Int} (h : Kd.F (Kd.int .i64) W (fun k => k ≠ Bf) A l.length l) (hg : W.grownBy w' (some Bf)) : Kd.F (Kd.int .i64) w' (fun k => k ≠ Bf) A l.length l :=
  Kd.F_step h (fun k hk hlt => hg.block k hlt (fun e => hk (by cases e; rfl)))
theorem grownBy_trans' {a b c : World} {r : Option Nat} (h : a.grownBy b r) (k : b.grownBy c r) : a.grownBy c r :=
  ⟨k.os.trans h.os, k.tape.trans h.tape, k.output.trans h.output, Nat.le_trans h.size k.size, fun i hi hr => (k.block i (Nat.lt_of_lt_of_le hi h.size) hr).trans (h.block i hi hr)⟩
theorem grownBy_of_none {a b : World} {r : Option Nat} (h : a.grownBy b none) : a.grownBy b r :=
  ⟨h.os, h.tape, h.output, h.size, fun i hi _ => h.block i hi (by simp)⟩

theorem cells_of_C {w : World} {A : Option Addr} {n : Nat} {l : List Int} (h : Kd.C (Kd.int .i64) w A n l) {ba : Addr} (e : A = some ba) {j : Nat} {u : Value} (hu : (l.map (Value.int .i64))[j]? = some u) : w.cell? (ba.add j) = some u := by
  obtain ⟨x, hx, rfl⟩ := List.getElem?_eq_some_iff.1 (show (l.map (Value.int .i64))[j]? = some u from hu) |> fun ⟨h1, h2⟩ => (⟨l[j]'(by simpa using h1), by simp, by rw [← h2]; simp⟩ : ∃ x, l[j]? = some x ∧ u = Value.int .i64 x)
  have hj : j < l.length := (List.getElem?_eq_some_iff.1 hx).1
  obtain ⟨ad, e1, hc⟩ := Kd.at_int h (j : Int) (by omega) (by have := Kd.C_len h; omega)
  rw [e] at e1
  cases e1
  rw [Int.toNat_natCast] at hc
  rw [hc]
  unfold rd
  rw [Int.toNat_natCast, List.getD_eq_getElem?_getD, hx]
  rfl
theorem cells_one {w : World} {B : Nat} {v : Value} (h : w.cell? ⟨B, 0, none⟩ = some v) : ∀ j u, [v][j]? = some u → w.cell? ((⟨B, 0, none⟩ : Addr).add j) = some u := by
  intro j u hu
  match j with
  | 0 => cases hu; exact h
  | j + 1 => simp at hu
theorem cut_addr (ad : Addr) (c m : Nat) : (if c = m + 1 then some ad else (some ad).map (·.add ((m + 1) * (Kd.int .i64).sz))) = (if c = m + 1 then some ad else some ⟨ad.block, ad.off + (m + 1), none⟩) := by
  have : (Kd.int .i64).sz = 1 := rfl
  rw [this]
  split
  · rfl
  · simp [Addr.add]
theorem F_cut1 {W : World} {ok : Nat → Prop} {ad : Addr} {xs : List Int} {c m : Nat} (h : Kd.F (Kd.int .i64) W ok (some ad) xs.length xs) (hm : m + 1 ≤ xs.length) (hc : xs.length ≤ c) :
    Kd.F (Kd.int .i64) W ok (if c = m + 1 then some ad else some ⟨ad.block, ad.off + (m + 1), none⟩) (xs.drop (m + 1)).length (xs.drop (m + 1)) := by
  have h2 := Kd.F_cut h hm hc
  rwa [cut_addr] at h2
theorem below_grownBy {B Bf : Nat} {w0 W w' : World} (h : Below B w0 W) (hg : W.grownBy w' (some Bf)) (hBf : B ≤ Bf) (hB : B ≤ W.heap.size) : Below B w0 w' := h.grown hg hB (fun k e => by cases e; exact hBf)

theorem run_step {P : Program} {ops : Array Oper} {oi : Oper} {a : Act} {w w' : World} {v : Value} {K : Act → World → Prop} {Q : Exit → Act → World → Prop} {E : Prop} (hw : Region.wanted oi (yielded ops a.tmps) = true)
    (hrun : (execOp a.eval oi).run P w = .ok (.value v) w') (h : K (a.put oi.dst v) w') : if Region.wanted oi (yielded ops a.tmps) = true then Oper.wp P oi a w K Q else E := by
  rw [if_pos hw]
  unfold Oper.wp
  rw [hrun]
  exact h

set_option maxHeartbeats 8000000 in
set_option maxRecDepth 100000 in
theorem choose1 (w0 : World) (g : Nat) (lb : Array Value) (h : List Int → Bool) (E : Int → Prop) (eg : ∀ args w, (callFunc g args).run Try.prog w = .ok (.enter g args) w) (hH : HoldsL g lb h E w0) (k : Nat) (Bk Bf Bh Ba : Nat) (hBf : w0.heap.size ≤ Bf) (hk1 : Bk ≠ Bf) (hh1 : Bh ≠ Bf) (ha1 : Ba ≠ Bf) :
    ∀ (n : Nat) (rest b : List Int) (W : World) (Ab : Option Addr) (cb : Nat) (Ar : Option Addr) (cr : Nat), rest.length ≤ n → b.length ≤ 100000 → rest.length ≤ 100000 - b.length → (∀ x ∈ b, E x) → (∀ x ∈ rest, E x) →
    W.heap[Bk]? = some (.cells #[.int .i64 k] 3 (0, 0)) → W.heap[Bh]? = some (.cells #[.func (.func g) #[] lb] 90 (0, 0)) →
    W.heap[Ba]? = some (.cells #[.func (.func 72) #[] #[.pointer (some ⟨Bk, 0, none⟩), .pointer (some ⟨Bf, 0, none⟩), .pointer (some ⟨Bh, 0, none⟩), .pointer (some ⟨Ba, 0, none⟩)]] 42 (0, 0)) →
    (∃ v, W.heap[Bf]? = some (.cells #[v] 34 (0, 0))) → Below w0.heap.size w0 W → Kd.F (Kd.int .i64) W (fun q => q ≠ Bf) Ab b.length b → b.length ≤ cb → (Ab = none → cb = 0) → Kd.F (Kd.int .i64) W (fun q => q ≠ Bf) Ar rest.length rest → rest.length ≤ cr →
    Calls Try.prog 72 #[.slice Ab b.length cb, .slice Ar rest.length cr, .pointer (some ⟨Bk, 0, none⟩), .pointer (some ⟨Bf, 0, none⟩), .pointer (some ⟨Bh, 0, none⟩), .pointer (some ⟨Ba, 0, none⟩)] W (Found Bf W (srch k h b rest)) := by
  intro n
  induction n using Nat.strongRecOn with
  | _ n ih =>
  intro rest b W Ab cb Ar cr hn hb1 hr1 hEb hEr hWk hWh hWa hWf hWb hFb hcb hAb hFr hcr
  obtain ⟨v0, hWf⟩ := hWf
  have kk := blk_cell hWk 0
  have kh := blk_cell hWh 0
  have kf := blk_cell hWf 0
  have kz := blk_frozen hWf 0
  have HFb := Aside0.mk hFb
  have HFr := Aside0.mk hFr
  have HWk := Aside0.mk hWk
  have HWh := Aside0.mk hWh
  have HWa := Aside0.mk hWa
  have HWf := Aside0.mk hWf
  have HWb := Aside0.mk hWb
  have HEb := Aside0.mk hEb
  have HEr := Aside0.mk hEr
  have HIH := Aside0.mk ih
  have HH := Aside0.mk hH
  clear hFb hFr hWk hWh hWa hWf hWb hEb hEr ih hH
  replace kk : W.cell? ⟨Bk, 0, none⟩ = some (.int .i64 k) := kk.trans rfl
  replace kh : W.cell? ⟨Bh, 0, none⟩ = some (.func (.func g) #[] lb) := kh.trans rfl
  replace kf : W.cell? ⟨Bf, 0, none⟩ = some v0 := kf.trans rfl
  by_cases hkb : b.length = k
  · have hkb1 : (((b.length : Nat) : Int) == (k : Int)) = true := by simp [hkb]
    have hs : srch k h b rest = if h b = true then some b else none := by unfold srch; rw [if_pos hkb]
    have HS := Aside0.mk hs
    clear hs hkb
    have hcall := HH.out (W.setCell ⟨Bf, 0, none⟩ (.slice Ab b.length cb)) Ab cb b HEb.out hb1 (HWb.out.setCell (p := ⟨Bf, 0, none⟩) hBf _) (Kd.F_now (Kd.F_far HFb.out (fun k hk => hk) _)) hcb
    have HC := Aside0.mk hcall
    clear hcall
    go_enter Try.func72, Try.ntmps72
    go_wp2
    refine HC.out.mono ?_
    rintro e w' ⟨rfl, hb⟩
    have hw1 := blk_set HWf.out 0 (.slice Ab b.length cb)
    go_wp2
    go_ret
    refine ⟨?_, grownBy_trans' (grownBy_setCell' W Bf _) (grown_of_below hb _), ⟨_, blk_below hw1 hb⟩, ?_⟩
    · show Ending.returned (.bool (h b)) = _
      rw [HS.out]
      cases h b <;> rfl
    · intro r hr
      rw [HS.out] at hr
      cases hq : h b with
      | false => rw [hq] at hr; cases hr
      | true =>
        rw [hq] at hr
        cases hr
        exact ⟨Ab, cb, blk_below hw1 hb, hcb, Kd.F_below (Kd.F_far HFb.out (fun k hk => hk) _) hb⟩
  · have hkb1 : (((b.length : Nat) : Int) == (k : Int)) = false := by simp only [beq_eq_false_iff_ne, ne_eq]; omega
    have hs : srch k h b rest = srchLoop k h b rest := by unfold srch; rw [if_neg hkb]
    have HS := Aside0.mk hs
    clear hs hkb HH kh kf kz
    obtain ⟨i0, hi, hz0, hz1, hz2⟩ := info_parts info3
    have hInfo := Aside0.mk (And.intro hi (And.intro hz0 (And.intro hz1 hz2)))
    clear hi hz0 hz1 hz2
    go_enter Try.func72, Try.ntmps72
    go_wp2
    clear kk
    go_loopg [21] rest.length (fun gg s21 wr => ∃ kq : Nat, kq ≤ rest.length ∧ rest.length - kq ≤ gg ∧ s21 = .int .i64 kq ∧ Aside0 (W.grownBy wr (some Bf)) ∧ Aside0 (∃ v, wr.heap[Bf]? = some (.cells #[v] 34 (0, 0))) ∧ Aside0 (srchLoop k h b rest = srchLoop k h b (rest.drop kq)))
    case atStart => exact ⟨0, Nat.zero_le _, by omega, rfl, ⟨⟨rfl, rfl, rfl, Nat.le_refl _, fun _ _ _ => rfl⟩⟩, ⟨⟨_, HWf.out⟩⟩, ⟨by simp⟩⟩
    case round =>
      obtain ⟨kq, hkq, hgq, rfl, HG, HBx, HL⟩ := hrel
      by_cases hlt : kq < rest.length
      · have hltz : (kq : Int) < (rest.length : Int) := by omega
        have hFr1 := F_grown HFr.out HG.out
        have hFb1 := F_grown HFb.out HG.out
        obtain ⟨ad, e1, hx⟩ := Kd.at_int (Kd.F_now hFr1) kq (by omega) hltz
        cases e1
        rw [Int.toNat_natCast] at hx
        have hwa1 : wr.heap[Ba]? = some (.cells #[.func (.func 72) #[] #[.pointer (some ⟨Bk, 0, none⟩), .pointer (some ⟨Bf, 0, none⟩), .pointer (some ⟨Bh, 0, none⟩), .pointer (some ⟨Ba, 0, none⟩)]] 42 (0, 0)) := (HG.out.block Ba (blk_lt HWa.out) (fun e => ha1 (by cases e; rfl))).trans HWa.out
        have ka : wr.cell? ⟨Ba, 0, none⟩ = some (.func (.func 72) #[] #[.pointer (some ⟨Bk, 0, none⟩), .pointer (some ⟨Bf, 0, none⟩), .pointer (some ⟨Bh, 0, none⟩), .pointer (some ⟨Ba, 0, none⟩)]) := (blk_cell hwa1 0).trans rfl
        have er : rest.drop kq = rd rest kq :: rest.drop (kq + 1) := by
          rw [List.drop_eq_getElem_cons hlt]; congr 1
          unfold rd; rw [Int.toNat_natCast, List.getD_eq_getElem?_getD, List.getElem?_eq_getElem hlt]; rfl
        have hEx : E (rd rest kq) := HEr.out _ (List.mem_of_mem_drop (i := kq) (by rw [er]; exact List.mem_cons_self ..))
        have hEd : ∀ x ∈ rest.drop (kq + 1), E x := fun x hx => HEr.out x (List.mem_of_mem_drop hx)
        have HEx := Aside0.mk hEx
        have HEd := Aside0.mk hEd
        have HER := Aside0.mk er
        have HFr1 := Aside0.mk hFr1
        have HFb1 := Aside0.mk hFb1
        have HWa1 := Aside0.mk hwa1
        clear hEx hEd er hFr1 hFb1 hwa1
        generalize rd rest kq = x at hx HEx HER
        have hz := HG.out.size
        go_wp2
        have hgd : Below wr.heap.size wr wr.drew := below_drew (Below.refl _ _)
        have HGd := Aside0.mk (grownBy_trans' HG.out (grown_of_below hgd (some Bf)))
        obtain ⟨vf, hvf⟩ := HBx.out
        have HBd := Aside0.mk (blk_below hvf hgd)
        have HFr2 := Aside0.mk (Kd.F_below HFr1.out hgd)
        have HFb2 := Aside0.mk (Kd.F_below HFb1.out hgd)
        have HWad := Aside0.mk (blk_below HWa1.out hgd)
        have HZ := Aside0.mk (show W.heap.size ≤ wr.drew.heap.size from HGd.out.size)
        clear HG HBx hvf HFr1 HFb1 HWa1 hx hgd hz
        refine start_ (n := 11) (S := fun w' => w'.cell? ⟨Ba, 0, none⟩ = some (.func (.func 72) #[] #[.pointer (some ⟨Bk, 0, none⟩), .pointer (some ⟨Bf, 0, none⟩), .pointer (some ⟨Bh, 0, none⟩), .pointer (some ⟨Ba, 0, none⟩)])) (ds := []) #[false, false, false, false, false, false, false, false, false, false, false] (by kernel_rfl) rfl rfl ((blk_cell HWad.out 0).trans rfl) (fun hHeld => ?_); refine with_tabW step_choose.tab7 step_choose.bits7 (fun HT_ HW_ => ?_)
        clear ka
        generalize wr.drew = wd at HGd HBd HFr2 HFb2 HWad HZ hHeld ⊢
        have hc1 : 0 ≤ (kq : Int) + 1 := by omega
        have hc2k : (kq : Int) + 1 ≤ (rest.length : Int) := by omega
        have hAb' : Ab = none → b.length = 0 ∧ cb = 0 := fun e => ⟨by have := hAb e; omega, hAb e⟩
        have hkw : wrap64 ((kq : Int) + 1) = (kq : Int) + 1 := w64 _ (by omega) (by omega)
        refine pure_ (i := 1) (N := some 27) (v := ?_) (a' := ?_) #[false, true, false, false, false, false, false, false, false, false, false] rfl rfl (any_of HT_.out (by kernel_rfl)) (fun _ _ _ h => h) (Or.inl ⟨by rfl, ?_⟩) ?_ ?_
        rotate_left
        · intro w'
          go_simp
          with_reducible rfl
        rotate_left
        · simp only [Act.put, List.setIfInBounds_toArray, List.set_cons_zero, List.set_cons_succ, i64_w, i32_w]
          rfl
        refine pure_ (i := 3) (N := some 29) (v := ?_) (a' := ?_) #[false, true, false, true, false, false, false, false, false, false, false] rfl rfl (any_of HT_.out (by kernel_rfl)) (fun _ _ _ h => h) (Or.inl ⟨by rfl, ?_⟩) ?_ ?_
        rotate_left
        · intro w'
          go_simp
          with_reducible rfl
        rotate_left
        · simp only [Act.put, List.setIfInBounds_toArray, List.set_cons_zero, List.set_cons_succ, i64_w, i32_w]
          rfl
        refine pure_ (i := 6) (N := some 32) (v := ?_) (a' := ?_) #[false, true, false, true, false, false, true, false, false, false, false] rfl rfl (any_of HT_.out (by kernel_rfl)) (fun _ _ _ h => h) (Or.inl ⟨by rfl, ?_⟩) ?_ ?_
        rotate_left
        · intro w'
          go_simp
          with_reducible rfl
        rotate_left
        · simp only [Act.put, List.setIfInBounds_toArray, List.set_cons_zero, List.set_cons_succ, i64_w, i32_w]
          rfl
        refine pure_ (i := 7) (N := some 33) (v := ?_) (a' := ?_) #[false, true, false, true, false, false, true, true, false, false, false] rfl rfl (any_of HT_.out (by kernel_rfl)) (fun _ _ _ h => h) (Or.inl ⟨by rfl, ?_⟩) ?_ ?_
        rotate_left
        · intro w'
          go_simp
          with_reducible rfl
        rotate_left
        · simp only [Act.put, List.setIfInBounds_toArray, List.set_cons_zero, List.set_cons_succ, i64_w, i32_w]
          rfl
        refine pure_ (i := 8) (N := some 34) (v := ?_) (a' := ?_) #[false, true, false, true, false, false, true, true, true, false, false] rfl rfl (any_of HT_.out (by kernel_rfl)) (fun _ _ _ h => h) (Or.inl ⟨by rfl, ?_⟩) ?_ ?_
        rotate_left
        · intro w'
          go_simp
          with_reducible rfl
        rotate_left
        · simp only [Act.put, List.setIfInBounds_toArray, List.set_cons_zero, List.set_cons_succ, i64_w, i32_w]
          rfl
        refine pure_ (i := 9) (N := some 35) (v := ?_) (a' := ?_) #[false, true, false, true, false, false, true, true, true, true, false] rfl rfl (any_of HT_.out (by kernel_rfl)) (fun _ _ _ h => h) (Or.inl ⟨by rfl, ?_⟩) ?_ ?_
        rotate_left
        · intro w'
          go_simp
          with_reducible rfl
        rotate_left
        · simp only [Act.put, List.setIfInBounds_toArray, List.set_cons_zero, List.set_cons_succ, i64_w, i32_w]
          rfl
        refine take_ (i := 0) (N := some 26) (v := ?_) (a' := ?_) #[true, true, false, true, false, false, true, true, true, true, false] rfl rfl (take_ofW HT_.out HW_.out (by kernel_rfl)) (fun _ _ _ h => h) (Or.inl ⟨by rfl, ?_⟩) hHeld ?_ ?_
        rotate_left
        · rintro w' s0
          go_simp
          with_reducible rfl
        rotate_left
        · simp only [Act.put, List.setIfInBounds_toArray, List.set_cons_zero, List.set_cons_succ, i64_w, i32_w]
          rfl
        refine two_ (i := 2) (j := 4) (Ni := some 28) (Nj := some 30) #[true, true, true, true, false, false, true, true, true, true, false] #[true, true, false, true, true, false, true, true, true, true, false] rfl rfl rfl rfl (two_of HT_.out (by kernel_rfl)) (by decide) (by decide) (fun K hK => ?_) (fun K hK => ?_)
        · refine goes_ Try.func73 (by kernel_rfl) rfl #[.slice Ab b.length cb] (by rfl) rfl rfl (by (try simp only [List.map_toArray, List.map_cons, List.map_nil]); first | done | rfl) ?_
          with_reducible refine (clip Ab b.length cb hcb hAb' _).mono ?_
          rintro e w' ⟨rfl, ⟨nd, rfl⟩⟩
          refine ⟨_, rfl, ?_⟩
          refine hK.out _ _ ?hh (fun hHeld => ?_)
          case hh => exact pw_cell_below (pw_below_drewN (Below.refl _ _) _) hHeld
          clear hK K
          refine norm_ (a' := ?_) ?_ ?_
          rotate_left
          · show Act.put _ (some 28) _ = _
            simp only [Act.put, List.setIfInBounds_toArray, List.set_cons_zero, List.set_cons_succ, i64_w, i32_w]
            rfl
          refine one_ (i := 4) (N := some 30) #[true, true, true, true, true, false, true, true, true, true, false] rfl rfl (one_of HT_.out (by kernel_rfl)) (by decide) (fun K hK => ?_)
          refine run_step (w' := (wd.drewN nd).alloc (.cells #[.int .i64 x] 3)) (v := .slice (some ⟨wd.heap.size, 0, none⟩) 1 1) rfl ?_ ?_
          · first | (go_simp; done) | (go_simp; rfl)
          refine hK.out _ _ ?hh (fun hHeld => ?_)
          case hh => exact pw_cell_below (below_alloc (Below.refl _ _) _) hHeld
          clear hK K
          refine norm_ (a' := ?_) ?_ ?_
          rotate_left
          · show Act.put _ (some 30) _ = _
            simp only [Act.put, List.setIfInBounds_toArray, List.set_cons_zero, List.set_cons_succ, i64_w, i32_w]
            rfl
          have hbw : Below wd.heap.size wd ((wd.drewN nd).alloc (.cells #[.int .i64 x] 3)) := (below_alloc (pw_below_drewN (Below.refl _ _) _) _)
          have hnew : ((wd.drewN nd).alloc (.cells #[.int .i64 x] 3)).cell? ⟨wd.heap.size, 0, none⟩ = some (.int .i64 x) := (blk_cell (blk_new (wd.drewN nd) _) 0).trans rfl
          generalize ((wd.drewN nd).alloc (.cells #[.int .i64 x] 3)) = wa at hbw hnew hHeld ⊢
          have HGa := Aside0.mk (grownBy_trans' HGd.out (grown_of_below hbw (some Bf)))
          have HBa := Aside0.mk (blk_below HBd.out hbw)
          have HFra := Aside0.mk (Kd.F_below HFr2.out hbw)
          have HFba := Aside0.mk (Kd.F_below HFb2.out hbw)
          have HWaa := Aside0.mk (blk_below HWad.out hbw)
          have hBfa : Bf < wa.heap.size := blk_lt HBa.out
          refine one_ (i := 5) (N := some 31) #[true, true, true, true, true, true, true, true, true, true, false] rfl rfl (one_of HT_.out (by kernel_rfl)) (by decide) (fun K hK => ?_)
          refine step_append_grows rfl (.tmp 28) (.tmp 30) 34 rfl 3 i0 (.int .i64 0) 1 8 Try.underlying34 hInfo.out.1 hInfo.out.2.1 hInfo.out.2.2.1 hInfo.out.2.2.2 rfl (by decide) Ab b.length b.length (b.map (Value.int .i64)) rfl (fun e => ⟨(hAb' e).1, (hAb' e).1⟩) (by simp) (fun ba e j u hu => cells_of_C (Kd.F_now HFba.out) e hu) ⟨wd.heap.size, 0, none⟩ 1 1 [.int .i64 x] rfl rfl (cells_one hnew) (by simp [Value.oneCell']) (by omega) (by unfold maxLen; omega) (by omega) ?_
          intro v2 w2 hown hg2
          have hR : Kd.R (Kd.int .i64) 3 w2 wa.heap.size (fun q => q ≠ Bf) v2 (b ++ [x]) := Kd.R_of_own (by simpa [encs] using hown) (fun q hq => by have := own_base hown q hq; omega)
          obtain ⟨A2, c2, rfl, hc2, hC2⟩ := Kd.R_reads hR
          have HF2 := Aside0.mk (Kd.R_F hR)
          have HG2 := Aside0.mk (grownBy_trans' HGa.out (grownBy_of_none hg2))
          have hz2 := hg2.size
          have HB2 := Aside0.mk ((hg2.block Bf hBfa (by simp)).trans HBa.out)
          have HW2 := Aside0.mk ((hg2.block Ba (blk_lt HWaa.out) (by simp)).trans HWaa.out)
          have HFr3 := Aside0.mk (Kd.F_step HFra.out (fun q _ hq => hg2.block q hq (by simp)))
          have hA2 : A2 = none → c2 = 0 := fun e => by
            subst e
            rcases hown.2 with ⟨e1, _⟩ | ⟨g2, cap2, cur2, e1, _⟩
            · simp only [Value.slice.injEq] at e1
              exact e1.2.2
            · simp at e1
          clear hR hC2 hown hg2 HGa HBa HFra HFba HWaa hbw hnew
          refine hK.out _ _ ?hh (fun hHeld => ?_)
          case hh => exact (blk_cell HW2.out 0).trans rfl
          clear hK K
          refine norm_ (a' := ?_) ?_ ?_
          rotate_left
          · show Act.put _ (some 31) _ = _
            simp only [Act.put, List.setIfInBounds_toArray, List.set_cons_zero, List.set_cons_succ, i64_w, i32_w]
            rfl
          refine one_ (i := 10) (N := some 36) #[true, true, true, true, true, true, true, true, true, true, true] rfl rfl (one_of HT_.out (by kernel_rfl)) (by decide) (fun K hK => ?_)
          refine call_ 72 #[.slice A2 (b ++ [x]).length c2, .slice (if cr = kq + 1 then some ad else some ⟨ad.block, ad.off + (kq + 1), none⟩) (rest.drop (kq + 1)).length (cr - (kq + 1)), .pointer (some ⟨Bk, 0, none⟩), .pointer (some ⟨Bf, 0, none⟩), .pointer (some ⟨Bh, 0, none⟩), .pointer (some ⟨Ba, 0, none⟩)] rfl rfl ?hrun ?_
          case hrun => rw [List.length_drop]; first | (go_simp; done) | (go_simp; rfl)
          have hcutF : Kd.F (Kd.int .i64) w2 (fun q => q ≠ Bf) (if cr = kq + 1 then some ad else some ⟨ad.block, ad.off + (kq + 1), none⟩) (rest.drop (kq + 1)).length (rest.drop (kq + 1)) := F_cut1 (m := kq) (c := cr) HFr3.out hlt hcr
          have hEb' : ∀ y ∈ b ++ [x], E y := by
            intro y hy
            rcases List.mem_append.1 hy with hy | hy
            · exact HEb.out y hy
            · rw [List.mem_singleton] at hy
              subst hy
              exact HEx.out
          have hk3 := (HG2.out.block Bk (blk_lt HWk.out) (fun e => hk1 (by cases e; rfl))).trans HWk.out
          have hh3 := (HG2.out.block Bh (blk_lt HWh.out) (fun e => hh1 (by cases e; rfl))).trans HWh.out
          have hb0 := below_grownBy HWb.out HG2.out hBf HWb.out.size
          clear hkw hc1 hc2k
          have hl1 : (rest.drop (kq + 1)).length = rest.length - (kq + 1) := List.length_drop
          have hl2 : (b ++ [x]).length = b.length + 1 := by simp
          have hcall := HIH.out (n - 1) (by omega) (rest.drop (kq + 1)) (b ++ [x]) w2 A2 c2 (if cr = kq + 1 then some ad else some ⟨ad.block, ad.off + (kq + 1), none⟩) (cr - (kq + 1)) (by omega) (by omega) (by omega) hEb' HEd.out hk3 hh3 HW2.out ⟨_, HB2.out⟩ hb0 HF2.out hc2 hA2 hcutF (by omega)
          clear hcutF hEb' hk3 hh3 hb0
          refine hcall.mono ?_
          clear hcall
          rintro e w3 ⟨rfl, hg3, hb3, hr3⟩
          refine ⟨_, rfl, ?_⟩
          have HG3 := Aside0.mk (grownBy_trans' HG2.out hg3)
          have HB3 := Aside0.mk hb3
          have HR3 := Aside0.mk hr3
          have hw3 : w3.cell? ⟨Ba, 0, none⟩ = _ := (blk_cell ((hg3.block Ba (blk_lt HW2.out) (fun e => ha1 (by cases e; rfl))).trans HW2.out) 0).trans rfl
          refine hK.out _ _ hw3 (fun hHeld => ?_)
          clear hK K hg3 hb3 hr3 hHeld hw3
          refine norm_ (a' := ?_) ?_ ?_
          rotate_left
          · show Act.put _ (some 36) _ = _
            simp only [Act.put, List.setIfInBounds_toArray, List.set_cons_zero, List.set_cons_succ, i64_w, i32_w]
            rfl
          refine done_ (done_of HT_.out (by kernel_rfl)) ?_
          generalize (if cr = kq + 1 then some ad else some (⟨ad.block, ad.off + (kq + 1), none⟩ : Addr)) = Ar2
          have hcons : srchLoop k h b (rest.drop kq) = (srch k h (b ++ [x]) (rest.drop (kq + 1))).or (srchLoop k h b (rest.drop (kq + 1))) := by rw [HER.out, srchLoop_cons]
          have HCs := Aside0.mk hcons
          clear hcons
          cases hq : srch k h (b ++ [x]) (rest.drop (kq + 1)) with
          | some r =>
            have HQ := Aside0.mk hq
            clear hq
            simp only [Option.isSome_some]
            go_wp2
            go_ret
            have hres : srch k h b rest = some r := by rw [HS.out, HL.out, HCs.out, HQ.out]; rfl
            refine ⟨by rw [hres]; rfl, HG3.out, HB3.out, ?_⟩
            intro r' hr'
            rw [hres] at hr'
            cases hr'
            exact HR3.out r HQ.out
          | none =>
            have HQ := Aside0.mk hq
            clear hq
            simp only [Option.isSome_none]
            go_wp2
            go_roundg (rest.length - (kq + 1))
            case measure => omega
            case rel => exact ⟨kq + 1, by omega, by omega, by go_num, HG3, HB3, ⟨by rw [HL.out, HCs.out, HQ.out]; rfl⟩⟩
        · refine run_step (w' := (wd).alloc (.cells #[.int .i64 x] 3)) (v := .slice (some ⟨wd.heap.size, 0, none⟩) 1 1) rfl ?_ ?_
          · first | (go_simp; done) | (go_simp; rfl)
          refine hK.out _ _ ?hh (fun hHeld => ?_)
          case hh => exact pw_cell_below (below_alloc (Below.refl _ _) _) hHeld
          clear hK K
          refine norm_ (a' := ?_) ?_ ?_
          rotate_left
          · show Act.put _ (some 30) _ = _
            simp only [Act.put, List.setIfInBounds_toArray, List.set_cons_zero, List.set_cons_succ, i64_w, i32_w]
            rfl
          refine one_ (i := 2) (N := some 28) #[true, true, true, true, true, false, true, true, true, true, false] rfl rfl (one_of HT_.out (by kernel_rfl)) (by decide) (fun K hK => ?_)
          refine goes_ Try.func73 (by kernel_rfl) rfl #[.slice Ab b.length cb] (by rfl) rfl rfl (by (try simp only [List.map_toArray, List.map_cons, List.map_nil]); first | done | rfl) ?_
          with_reducible refine (clip Ab b.length cb hcb hAb' _).mono ?_
          rintro e w' ⟨rfl, ⟨nd, rfl⟩⟩
          refine ⟨_, rfl, ?_⟩
          refine hK.out _ _ ?hh (fun hHeld => ?_)
          case hh => exact pw_cell_below (pw_below_drewN (Below.refl _ _) _) hHeld
          clear hK K
          refine norm_ (a' := ?_) ?_ ?_
          rotate_left
          · show Act.put _ (some 28) _ = _
            simp only [Act.put, List.setIfInBounds_toArray, List.set_cons_zero, List.set_cons_succ, i64_w, i32_w]
            rfl
          have hbw : Below wd.heap.size wd ((wd.alloc (.cells #[.int .i64 x] 3)).drewN nd) := (pw_below_drewN (below_alloc (Below.refl _ _) _) _)
          have hnew : ((wd.alloc (.cells #[.int .i64 x] 3)).drewN nd).cell? ⟨wd.heap.size, 0, none⟩ = some (.int .i64 x) := (blk_cell (blk_drewN (blk_new wd _) nd) 0).trans rfl
          generalize ((wd.alloc (.cells #[.int .i64 x] 3)).drewN nd) = wa at hbw hnew hHeld ⊢
          have HGa := Aside0.mk (grownBy_trans' HGd.out (grown_of_below hbw (some Bf)))
          have HBa := Aside0.mk (blk_below HBd.out hbw)
          have HFra := Aside0.mk (Kd.F_below HFr2.out hbw)
          have HFba := Aside0.mk (Kd.F_below HFb2.out hbw)
          have HWaa := Aside0.mk (blk_below HWad.out hbw)
          have hBfa : Bf < wa.heap.size := blk_lt HBa.out
          refine one_ (i := 5) (N := some 31) #[true, true, true, true, true, true, true, true, true, true, false] rfl rfl (one_of HT_.out (by kernel_rfl)) (by decide) (fun K hK => ?_)
          refine step_append_grows rfl (.tmp 28) (.tmp 30) 34 rfl 3 i0 (.int .i64 0) 1 8 Try.underlying34 hInfo.out.1 hInfo.out.2.1 hInfo.out.2.2.1 hInfo.out.2.2.2 rfl (by decide) Ab b.length b.length (b.map (Value.int .i64)) rfl (fun e => ⟨(hAb' e).1, (hAb' e).1⟩) (by simp) (fun ba e j u hu => cells_of_C (Kd.F_now HFba.out) e hu) ⟨wd.heap.size, 0, none⟩ 1 1 [.int .i64 x] rfl rfl (cells_one hnew) (by simp [Value.oneCell']) (by omega) (by unfold maxLen; omega) (by omega) ?_
          intro v2 w2 hown hg2
          have hR : Kd.R (Kd.int .i64) 3 w2 wa.heap.size (fun q => q ≠ Bf) v2 (b ++ [x]) := Kd.R_of_own (by simpa [encs] using hown) (fun q hq => by have := own_base hown q hq; omega)
          obtain ⟨A2, c2, rfl, hc2, hC2⟩ := Kd.R_reads hR
          have HF2 := Aside0.mk (Kd.R_F hR)
          have HG2 := Aside0.mk (grownBy_trans' HGa.out (grownBy_of_none hg2))
          have hz2 := hg2.size
          have HB2 := Aside0.mk ((hg2.block Bf hBfa (by simp)).trans HBa.out)
          have HW2 := Aside0.mk ((hg2.block Ba (blk_lt HWaa.out) (by simp)).trans HWaa.out)
          have HFr3 := Aside0.mk (Kd.F_step HFra.out (fun q _ hq => hg2.block q hq (by simp)))
          have hA2 : A2 = none → c2 = 0 := fun e => by
            subst e
            rcases hown.2 with ⟨e1, _⟩ | ⟨g2, cap2, cur2, e1, _⟩
            · simp only [Value.slice.injEq] at e1
              exact e1.2.2
            · simp at e1
          clear hR hC2 hown hg2 HGa HBa HFra HFba HWaa hbw hnew
          refine hK.out _ _ ?hh (fun hHeld => ?_)
          case hh => exact (blk_cell HW2.out 0).trans rfl
          clear hK K
          refine norm_ (a' := ?_) ?_ ?_
          rotate_left
          · show Act.put _ (some 31) _ = _
            simp only [Act.put, List.setIfInBounds_toArray, List.set_cons_zero, List.set_cons_succ, i64_w, i32_w]
            rfl
          refine one_ (i := 10) (N := some 36) #[true, true, true, true, true, true, true, true, true, true, true] rfl rfl (one_of HT_.out (by kernel_rfl)) (by decide) (fun K hK => ?_)
          refine call_ 72 #[.slice A2 (b ++ [x]).length c2, .slice (if cr = kq + 1 then some ad else some ⟨ad.block, ad.off + (kq + 1), none⟩) (rest.drop (kq + 1)).length (cr - (kq + 1)), .pointer (some ⟨Bk, 0, none⟩), .pointer (some ⟨Bf, 0, none⟩), .pointer (some ⟨Bh, 0, none⟩), .pointer (some ⟨Ba, 0, none⟩)] rfl rfl ?hrun ?_
          case hrun => rw [List.length_drop]; first | (go_simp; done) | (go_simp; rfl)
          have hcutF : Kd.F (Kd.int .i64) w2 (fun q => q ≠ Bf) (if cr = kq + 1 then some ad else some ⟨ad.block, ad.off + (kq + 1), none⟩) (rest.drop (kq + 1)).length (rest.drop (kq + 1)) := F_cut1 (m := kq) (c := cr) HFr3.out hlt hcr
          have hEb' : ∀ y ∈ b ++ [x], E y := by
            intro y hy
            rcases List.mem_append.1 hy with hy | hy
            · exact HEb.out y hy
            · rw [List.mem_singleton] at hy
              subst hy
              exact HEx.out
          have hk3 := (HG2.out.block Bk (blk_lt HWk.out) (fun e => hk1 (by cases e; rfl))).trans HWk.out
          have hh3 := (HG2.out.block Bh (blk_lt HWh.out) (fun e => hh1 (by cases e; rfl))).trans HWh.out
          have hb0 := below_grownBy HWb.out HG2.out hBf HWb.out.size
          clear hkw hc1 hc2k
          have hl1 : (rest.drop (kq + 1)).length = rest.length - (kq + 1) := List.length_drop
          have hl2 : (b ++ [x]).length = b.length + 1 := by simp
          have hcall := HIH.out (n - 1) (by omega) (rest.drop (kq + 1)) (b ++ [x]) w2 A2 c2 (if cr = kq + 1 then some ad else some ⟨ad.block, ad.off + (kq + 1), none⟩) (cr - (kq + 1)) (by omega) (by omega) (by omega) hEb' HEd.out hk3 hh3 HW2.out ⟨_, HB2.out⟩ hb0 HF2.out hc2 hA2 hcutF (by omega)
          clear hcutF hEb' hk3 hh3 hb0
          refine hcall.mono ?_
          clear hcall
          rintro e w3 ⟨rfl, hg3, hb3, hr3⟩
          refine ⟨_, rfl, ?_⟩
          have HG3 := Aside0.mk (grownBy_trans' HG2.out hg3)
          have HB3 := Aside0.mk hb3
          have HR3 := Aside0.mk hr3
          have hw3 : w3.cell? ⟨Ba, 0, none⟩ = _ := (blk_cell ((hg3.block Ba (blk_lt HW2.out) (fun e => ha1 (by cases e; rfl))).trans HW2.out) 0).trans rfl
          refine hK.out _ _ hw3 (fun hHeld => ?_)
          clear hK K hg3 hb3 hr3 hHeld hw3
          refine norm_ (a' := ?_) ?_ ?_
          rotate_left
          · show Act.put _ (some 36) _ = _
            simp only [Act.put, List.setIfInBounds_toArray, List.set_cons_zero, List.set_cons_succ, i64_w, i32_w]
            rfl
          refine done_ (done_of HT_.out (by kernel_rfl)) ?_
          generalize (if cr = kq + 1 then some ad else some (⟨ad.block, ad.off + (kq + 1), none⟩ : Addr)) = Ar2
          have hcons : srchLoop k h b (rest.drop kq) = (srch k h (b ++ [x]) (rest.drop (kq + 1))).or (srchLoop k h b (rest.drop (kq + 1))) := by rw [HER.out, srchLoop_cons]
          have HCs := Aside0.mk hcons
          clear hcons
          cases hq : srch k h (b ++ [x]) (rest.drop (kq + 1)) with
          | some r =>
            have HQ := Aside0.mk hq
            clear hq
            simp only [Option.isSome_some]
            go_wp2
            go_ret
            have hres : srch k h b rest = some r := by rw [HS.out, HL.out, HCs.out, HQ.out]; rfl
            refine ⟨by rw [hres]; rfl, HG3.out, HB3.out, ?_⟩
            intro r' hr'
            rw [hres] at hr'
            cases hr'
            exact HR3.out r HQ.out
          | none =>
            have HQ := Aside0.mk hq
            clear hq
            simp only [Option.isSome_none]
            go_wp2
            go_roundg (rest.length - (kq + 1))
            case measure => omega
            case rel => exact ⟨kq + 1, by omega, by omega, by go_num, HG3, HB3, ⟨by rw [HL.out, HCs.out, HQ.out]; rfl⟩⟩
      · have hltz : ¬ (kq : Int) < (rest.length : Int) := by omega
        obtain rfl : kq = rest.length := by omega
        have e := HL.out
        rw [List.drop_length] at e
        have e2 := HS.out.trans e
        have HE2 := Aside0.mk e2
        clear e e2
        go_wp2
        go_ret
        refine ⟨by rw [HE2.out]; rfl, HG.out, HBx.out, ?_⟩
        intro r hr
        rw [HE2.out] at hr
        cases hr

end Go.Proofs.Ytnbcdbkhpdpjgaa.H
