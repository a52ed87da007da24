/- step.choose and what step.Clash asks of it. -/
import Derived.Test.YtnbcdbkhpdpjgaaH8
namespace Go.Proofs.Ytnbcdbkhpdpjgaa.H
open Go.RowKit Go.Proofs.YtnbcdbkhpdpjgaaW.PrintWords Go.Proofs.YtnbcdbkhpdpjgaaW.PrintLast Go.Proofs.YtnbcdbkhpdpjgaaW.PrintMore
open Go.Shelf Go.Proofs.Ytnbcdbkhpdpjgaa.QA
set_option linter.unusedVariables false
set_option linter.unusedSimpArgs false

theorem blk_new3 (w : World) (o1 o2 o3 : Obj) : (((w.alloc o1).alloc o2).alloc o3).heap[w.heap.size + 2]? = some o3 := by
  have := blk_new ((w.alloc o1).alloc o2) o3
  simp only [World.size_alloc] at this
  exact this
theorem blk_new4 (w : World) (o1 o2 o3 o4 : Obj) : ((((w.alloc o1).alloc o2).alloc o3).alloc o4).heap[w.heap.size + 3]? = some o4 := by
  have := blk_new (((w.alloc o1).alloc o2).alloc o3) o4
  simp only [World.size_alloc] at this
  exact this

set_option maxHeartbeats 4000000 in
set_option maxRecDepth 100000 in
theorem choose_calls (g : Nat) (lb : Array Value) (h : List Int → Bool) (E : Int → Prop) (eg : ∀ args w, (callFunc g args).run Try.prog w = .ok (.enter g args) w) (k : Nat) (l : List Int) (A : Option Addr) (c : Nat) (w : World)
    (hH : HoldsL g lb h E w) (hr : Kd.C (Kd.int .i64) w A l.length l) (hc : l.length ≤ c) (hE : ∀ x ∈ l, E x) (hl : l.length ≤ 100000) :
    Calls Try.prog 56 #[.slice A l.length c, .int .i64 k, .func (.func g) #[] lb] w fun e w' => ∃ v, e = .returned (.tuple #[v, .bool (srch k h [] l).isSome]) ∧ Below w.heap.size w w' ∧
      ∀ r, srch k h [] l = some r → ∃ A c, v = .slice A r.length c ∧ r.length ≤ c ∧ Kd.C (Kd.int .i64) w' A r.length r := by
  have HR := Aside0.mk hr
  have HH := Aside0.mk hH
  have HE := Aside0.mk hE
  clear hr hH hE
  go_enter Try.func56, Try.ntmps56
  go_wp2_with fail
  have hB0 : Below w.heap.size w ((((w.alloc (Obj.cells #[Value.int IntKind.i64 ↑k] 3)).alloc (Obj.cells #[Value.func (Fn.func g) #[] lb] 90)).alloc (Obj.cells #[Value.slice none 0 0] 34)).alloc (Obj.cells #[Value.func (Fn.func 72) #[] #[Value.pointer (some { block := w.heap.size, off := 0 }), Value.pointer (some { block := w.heap.size + 1 + 1, off := 0 }), Value.pointer (some { block := w.heap.size + 1, off := 0 }), Value.pointer (some { block := w.heap.size + 1 + 1 + 1, off := 0 })]] 42)) := (by repeat (first | exact Below.refl _ _ | apply below_alloc))
  have hk : (((((w.alloc (Obj.cells #[Value.int IntKind.i64 ↑k] 3)).alloc (Obj.cells #[Value.func (Fn.func g) #[] lb] 90)).alloc (Obj.cells #[Value.slice none 0 0] 34)).alloc (Obj.cells #[Value.func (Fn.func 72) #[] #[Value.pointer (some { block := w.heap.size, off := 0 }), Value.pointer (some { block := w.heap.size + 1 + 1, off := 0 }), Value.pointer (some { block := w.heap.size + 1, off := 0 }), Value.pointer (some { block := w.heap.size + 1 + 1 + 1, off := 0 })]] 42))).heap[w.heap.size]? = some (.cells #[.int .i64 k] 3 (0, 0)) := blk_alloc (blk_alloc (blk_alloc (blk_new w _) _) _) _
  have hh : (((((w.alloc (Obj.cells #[Value.int IntKind.i64 ↑k] 3)).alloc (Obj.cells #[Value.func (Fn.func g) #[] lb] 90)).alloc (Obj.cells #[Value.slice none 0 0] 34)).alloc (Obj.cells #[Value.func (Fn.func 72) #[] #[Value.pointer (some { block := w.heap.size, off := 0 }), Value.pointer (some { block := w.heap.size + 1 + 1, off := 0 }), Value.pointer (some { block := w.heap.size + 1, off := 0 }), Value.pointer (some { block := w.heap.size + 1 + 1 + 1, off := 0 })]] 42))).heap[w.heap.size + 1]? = some (.cells #[.func (.func g) #[] lb] 90 (0, 0)) := blk_alloc (blk_alloc (blk_new2 w _ _) _) _
  have hf : (((((w.alloc (Obj.cells #[Value.int IntKind.i64 ↑k] 3)).alloc (Obj.cells #[Value.func (Fn.func g) #[] lb] 90)).alloc (Obj.cells #[Value.slice none 0 0] 34)).alloc (Obj.cells #[Value.func (Fn.func 72) #[] #[Value.pointer (some { block := w.heap.size, off := 0 }), Value.pointer (some { block := w.heap.size + 1 + 1, off := 0 }), Value.pointer (some { block := w.heap.size + 1, off := 0 }), Value.pointer (some { block := w.heap.size + 1 + 1 + 1, off := 0 })]] 42))).heap[w.heap.size + 1 + 1]? = some (.cells #[.slice none 0 0] 34 (0, 0)) := blk_alloc (blk_new3 w _ _ _) _
  have ha : (((((w.alloc (Obj.cells #[Value.int IntKind.i64 ↑k] 3)).alloc (Obj.cells #[Value.func (Fn.func g) #[] lb] 90)).alloc (Obj.cells #[Value.slice none 0 0] 34)).alloc (Obj.cells #[Value.func (Fn.func 72) #[] #[Value.pointer (some { block := w.heap.size, off := 0 }), Value.pointer (some { block := w.heap.size + 1 + 1, off := 0 }), Value.pointer (some { block := w.heap.size + 1, off := 0 }), Value.pointer (some { block := w.heap.size + 1 + 1 + 1, off := 0 })]] 42))).heap[w.heap.size + 1 + 1 + 1]? = some (.cells #[.func (.func 72) #[] #[.pointer (some ⟨w.heap.size, 0, none⟩), .pointer (some ⟨w.heap.size + 1 + 1, 0, none⟩), .pointer (some ⟨w.heap.size + 1, 0, none⟩), .pointer (some ⟨w.heap.size + 1 + 1 + 1, 0, none⟩)]] 42 (0, 0)) := blk_new4 w _ _ _ _
  have hF : Kd.F (Kd.int .i64) ((((w.alloc (Obj.cells #[Value.int IntKind.i64 ↑k] 3)).alloc (Obj.cells #[Value.func (Fn.func g) #[] lb] 90)).alloc (Obj.cells #[Value.slice none 0 0] 34)).alloc (Obj.cells #[Value.func (Fn.func 72) #[] #[Value.pointer (some { block := w.heap.size, off := 0 }), Value.pointer (some { block := w.heap.size + 1 + 1, off := 0 }), Value.pointer (some { block := w.heap.size + 1, off := 0 }), Value.pointer (some { block := w.heap.size + 1 + 1 + 1, off := 0 })]] 42)) (fun q => q ≠ w.heap.size + 1 + 1) A l.length l := Kd.F_mono (Kd.F_below (Kd.C_F (Kd.heap_int .i64) HR.out) hB0) (fun q hq => by omega)
  generalize ((((w.alloc (Obj.cells #[Value.int IntKind.i64 ↑k] 3)).alloc (Obj.cells #[Value.func (Fn.func g) #[] lb] 90)).alloc (Obj.cells #[Value.slice none 0 0] 34)).alloc (Obj.cells #[Value.func (Fn.func 72) #[] #[Value.pointer (some { block := w.heap.size, off := 0 }), Value.pointer (some { block := w.heap.size + 1 + 1, off := 0 }), Value.pointer (some { block := w.heap.size + 1, off := 0 }), Value.pointer (some { block := w.heap.size + 1 + 1 + 1, off := 0 })]] 42)) = W4 at hB0 hk hh hf ha hF ⊢
  have hcall := choose1 w g lb h E eg HH.out k w.heap.size (w.heap.size + 1 + 1) (w.heap.size + 1) (w.heap.size + 1 + 1 + 1) (by omega) (by omega) (by omega) (by omega) l.length l [] W4 none 0 A c (Nat.le_refl _) (by simp) (by simpa using hl) (by simp) HE.out hk hh ha ⟨_, hf⟩ hB0 (Kd.F_nil _ _ _) (Nat.le_refl _) (fun _ => rfl) hF hc
  refine hcall.mono ?_
  clear hcall hF hk hh hf ha
  rintro e w' ⟨rfl, hg, ⟨v, hv⟩, hres⟩
  have kv : w'.cell? ⟨w.heap.size + 1 + 1, 0, none⟩ = some v := (blk_cell hv 0).trans rfl
  have HB := Aside0.mk (hB0.grown hg hB0.size (fun q e => by cases e; omega))
  have HRes := Aside0.mk hres
  have HV := Aside0.mk hv
  clear hB0 hg hres hv
  go_wp2
  go_ret2
  refine ⟨v, rfl, HB.out, ?_⟩
  intro r hr
  obtain ⟨A', c', hb', hc', hF'⟩ := HRes.out r hr
  rw [HV.out] at hb'
  cases hb'
  exact ⟨A', c', rfl, hc', Kd.F_now hF'⟩

/-- The positions with some numbers. -/
def chosenS (l holes : List Int) : List Int := holes.map (rd l ·)
theorem chosen_spec (l : List Int) : ∀ (holes : List Int), (∀ i ∈ holes, 0 ≤ i ∧ i < l.length) → holes.length ≤ 100000 → step_chosen.f (holes.length + 1) l holes = some (chosenS l holes) := by
  intro holes hh hl
  unfold step_chosen.f
  have key : ∀ (d k i : Nat) (acc : List Int), holes.length - i = d → i ≤ holes.length → d < k → acc.length ≤ i → step_chosen.l0 k l acc holes (holes.length : Int) i = some (acc ++ chosenS l (holes.drop i)) := by
    intro d
    induction d with
    | zero =>
      intro k i acc hd hi hk ha
      obtain ⟨k, rfl⟩ : ∃ m, k = m + 1 := ⟨k - 1, by omega⟩
      simp only [step_chosen.l0]
      rw [if_neg (by omega), List.drop_of_length_le (by omega)]
      simp [chosenS]
    | succ d ih =>
      intro k i acc hd hi hk ha
      obtain ⟨k, rfl⟩ : ∃ m, k = m + 1 := ⟨k - 1, by omega⟩
      have hlt : i < holes.length := by omega
      have hrd : rd holes (i : Int) = holes[i] := by unfold rd; rw [Int.toNat_natCast, List.getD_eq_getElem?_getD, List.getElem?_eq_getElem hlt]; rfl
      have hm := hh holes[i] (List.getElem_mem hlt)
      simp only [step_chosen.l0]
      rw [hrd, if_pos (by omega), if_pos (by omega), if_pos (by omega), if_pos hm.1, if_pos hm.2, if_pos (by omega), w64 ((i : Int) + 1) (by omega) (by omega)]
      have := ih k (i + 1) (acc ++ [rd l holes[i]]) (by omega) (by omega) (by omega) (by simp; omega)
      simp only [Int.natCast_add, Int.natCast_one] at this
      rw [this, List.drop_eq_getElem_cons hlt]
      simp only [chosenS, List.map_cons, List.append_assoc, List.singleton_append]
  have := key holes.length (holes.length + 1) 0 [] (by omega) (by omega) (by omega) (by simp)
  simpa using this

theorem rd_mem (l : List Int) (i : Int) (h0 : 0 ≤ i) (h1 : i < l.length) : rd l i ∈ l := by
  unfold rd
  rw [List.getD_eq_getElem?_getD, List.getElem?_eq_getElem (by omega)]
  exact List.getElem_mem _


def step_Clash1.T1 : Bool × List (List Nat × List Nat) := (true, [([], []), ([], []), ([], []), ([1, 2], [1, 2]), ([], []), ([0, 3, 4, 3], [0, 3, 4]), ([5], [5]), ([6, 5, 0, 1, 2, 3, 4, 5, 6], [6])])
def step_Clash1.B1 : List Nat := [0, 0, 0, 6, 0, 31, 63, 127]
theorem step_Clash1.tab1 : rtab .any (opsOf Try.f57 1) = step_Clash1.T1 := by kernel_rfl
theorem step_Clash1.bits1 : waitsOk step_Clash1.T1.2 step_Clash1.B1 = true := by kernel_rfl

/-- Do the positions with these numbers exclude the step? -/
def excl (off step : Int) (l holes : List Int) : Bool := !allowsB off step (chosenS l holes)

set_option maxHeartbeats 4000000 in
set_option maxRecDepth 100000 in
/-- step.Clash$1 -/
theorem clash1 (B1 B2 B3 : Nat) (off step : Int) (A0 : Option Addr) (c0 : Nat) (ls : List (List Int)) (A1 : Option Addr) (c1 : Nat) (l : List Int) (w : World)
    (h10 : w.cell? ⟨B1, 0, none⟩ = some (.int .i64 off)) (h11 : w.cell? ⟨B1, 1, none⟩ = some (.slice A0 ls.length c0)) (h2 : w.cell? ⟨B2, 0, none⟩ = some (.slice A1 l.length c1)) (h3 : w.cell? ⟨B3, 0, none⟩ = some (.int .i64 step))
    (hr0 : Kd.C (Kd.slice 3 (Kd.int .i64)) w A0 ls.length ls) (hc0 : ls.length ≤ c0) (hr1 : Kd.C (Kd.int .i64) w A1 l.length l) (hc1 : l.length ≤ c1)
    (hs : 1 ≤ step) (hs2 : step ≤ 1000000) (ho : 0 ≤ off) (ho2 : off ≤ 1000) (hp : ∀ p ∈ l, 0 ≤ p ∧ p ≤ 1000000) :
    HoldsL 57 #[.pointer (some ⟨B1, 0, none⟩), .pointer (some ⟨B2, 0, none⟩), .pointer (some ⟨B3, 0, none⟩)] (excl off step l) (fun i => 0 ≤ i ∧ i < l.length) w := by
  intro W A c b hb hbl hW hrb hbc
  have HCh := Aside0.mk (chosen_spec l b hb hbl)
  have hal : step_Sheet_allows.f off ls (chosenS l b) step = some (allowsB off step (chosenS l b)) := by
    unfold step_Sheet_allows.f
    refine if_pos ⟨⟨hs, hs2⟩, ⟨ho, ho2⟩, ?_, by simpa [chosenS] using hbl⟩
    intro p hp'
    obtain ⟨i, hi, rfl⟩ := List.mem_map.1 hp'
    exact hp _ (rd_mem l i (hb i hi).1 (hb i hi).2)
  have HAl := Aside0.mk hal
  have hu24 := Try.underlying24
  have hWd : Below w.heap.size w W.drew := below_drew hW
  have k10 := pw_cell_below hWd h10
  have k11 := pw_cell_below hWd h11
  have k2 := pw_cell_below hWd h2
  have k3 := pw_cell_below hWd h3
  have HR0 := Aside0.mk (Kd.C_below hr0 hWd)
  have HR1 := Aside0.mk (Kd.C_below hr1 hWd)
  have HRb := Aside0.mk (Kd.C_below hrb (below_drew (Below.refl _ W)))
  have HBd := Aside0.mk (below_drew (Below.refl W.heap.size W))
  clear hal hp hb hr0 hr1 hrb h10 h11 h2 h3 hWd hW
  show Calls Try.prog 57 #[.slice A b.length c, .pointer (some ⟨B1, 0, none⟩), .pointer (some ⟨B2, 0, none⟩), .pointer (some ⟨B3, 0, none⟩)] W _
  go_enter Try.func57, Try.ntmps57
  go_wp2
  refine start_ (n := 8) (S := fun w' => w'.cell? ⟨B1, 0, none⟩ = some (.int .i64 off) ∧ w'.cell? ⟨B1, 1, none⟩ = some (.slice A0 ls.length c0) ∧ w'.cell? ⟨B2, 0, none⟩ = some (.slice A1 l.length c1) ∧ w'.cell? ⟨B3, 0, none⟩ = some (.int .i64 step)) (ds := []) #[false, false, false, false, false, false, false, false] (by kernel_rfl) rfl rfl ⟨k10, k11, k2, k3⟩ (fun hHeld => ?_); refine with_tabW step_Clash1.tab1 step_Clash1.bits1 (fun HT_ HW_ => ?_)
  clear k10 k11 k2 k3
  generalize W.drew = wd at HR0 HR1 HRb HBd hHeld ⊢
  refine pure_ (i := 2) (N := some 8) (v := ?_) (a' := ?_) #[false, false, true, false, false, false, false, false] rfl rfl (any_of HT_.out (by kernel_rfl)) (fun _ _ _ h => h) (Or.inl ⟨by rfl, ?_⟩) ?_ ?_
  rotate_left
  · intro w'
    go_simp
    with_reducible rfl
  rotate_left
  · simp only [Act.put, List.setIfInBounds_toArray, List.set_cons_zero, List.set_cons_succ, i64_w, i32_w]
    rfl
  refine take_ (i := 0) (N := some 6) (v := ?_) (a' := ?_) #[true, false, true, false, false, false, false, false] rfl rfl (take_ofW HT_.out HW_.out (by kernel_rfl)) (fun _ _ _ h => h) (Or.inl ⟨by rfl, ?_⟩) hHeld ?_ ?_
  rotate_left
  · rintro w' ⟨s0, s1, s2, s3⟩
    go_simp
    with_reducible rfl
  rotate_left
  · simp only [Act.put, List.setIfInBounds_toArray, List.set_cons_zero, List.set_cons_succ, i64_w, i32_w]
    rfl
  refine take_ (i := 1) (N := some 7) (v := ?_) (a' := ?_) #[true, true, true, false, false, false, false, false] rfl rfl (take_ofW HT_.out HW_.out (by kernel_rfl)) (fun _ _ _ h => h) (Or.inl ⟨by rfl, ?_⟩) hHeld ?_ ?_
  rotate_left
  · rintro w' ⟨s0, s1, s2, s3⟩
    go_simp
    with_reducible rfl
  rotate_left
  · simp only [Act.put, List.setIfInBounds_toArray, List.set_cons_zero, List.set_cons_succ, i64_w, i32_w]
    rfl
  refine take_ (i := 4) (N := some 10) (v := ?_) (a' := ?_) #[true, true, true, false, true, false, false, false] rfl rfl (take_ofW HT_.out HW_.out (by kernel_rfl)) (fun _ _ _ h => h) (Or.inl ⟨by rfl, ?_⟩) hHeld ?_ ?_
  rotate_left
  · rintro w' ⟨s0, s1, s2, s3⟩
    go_simp
    with_reducible rfl
  rotate_left
  · simp only [Act.put, List.setIfInBounds_toArray, List.set_cons_zero, List.set_cons_succ, i64_w, i32_w]
    rfl
  refine one_ (i := 3) (N := some 9) #[true, true, true, true, true, false, false, false] rfl rfl (one_of HT_.out (by kernel_rfl)) (by decide) (fun K hK => ?_)
  refine goes_ Try.func58 (by kernel_rfl) rfl #[.slice A1 l.length c1, .slice A b.length c] (by rfl) rfl rfl (by (try simp only [List.map_toArray, List.map_cons, List.map_nil]); first | done | rfl) ?_
  refine (step_chosen.calls (b.length + 1) A1 c1 l A c b (chosenS l b) wd HR1.out hc1 HRb.out hbc HCh.out).mono ?_
  rintro e w1 ⟨v1, rfl, hR1, hb1⟩
  obtain ⟨A2, c2, rfl, hc2, hC2⟩ := Kd.R_reads hR1
  refine ⟨_, rfl, ?_⟩
  refine hK.out _ _ ?hh (fun hHeld => ?_)
  case hh => exact ⟨pw_cell_below hb1 hHeld.1, pw_cell_below hb1 hHeld.2.1, pw_cell_below hb1 hHeld.2.2.1, pw_cell_below hb1 hHeld.2.2.2⟩
  clear hK K
  refine norm_ (a' := ?_) ?_ ?_
  rotate_left
  · show Act.put _ (some 9) _ = _
    simp only [Act.put, List.setIfInBounds_toArray, List.set_cons_zero, List.set_cons_succ, i64_w, i32_w]
    rfl
  refine one_ (i := 5) (N := some 11) #[true, true, true, true, true, true, false, false] rfl rfl (one_of HT_.out (by kernel_rfl)) (by decide) (fun K hK => ?_)
  refine goes_ Try.func55 (by kernel_rfl) rfl #[.agg #[.int .i64 off, .slice A0 ls.length c0], .slice A2 (chosenS l b).length c2, .int .i64 step] (by rfl) rfl rfl (by (try simp only [List.map_toArray, List.map_cons, List.map_nil]); first | done | rfl) ?_
  refine (step_Sheet_allows.calls off A0 c0 ls A2 c2 (chosenS l b) step _ w1 (Kd.C_below HR0.out hb1) hc0 hC2 hc2 HAl.out).mono ?_
  rintro e w2 ⟨rfl, hb2⟩
  refine ⟨_, rfl, ?_⟩
  refine hK.out _ _ ?hh (fun hHeld => ?_)
  case hh => exact ⟨pw_cell_below hb2 hHeld.1, pw_cell_below hb2 hHeld.2.1, pw_cell_below hb2 hHeld.2.2.1, pw_cell_below hb2 hHeld.2.2.2⟩
  clear hK K
  refine norm_ (a' := ?_) ?_ ?_
  rotate_left
  · show Act.put _ (some 11) _ = _
    simp only [Act.put, List.setIfInBounds_toArray, List.set_cons_zero, List.set_cons_succ, i64_w, i32_w]
    rfl
  refine pure_ (i := 6) (N := some 12) (v := ?_) (a' := ?_) #[true, true, true, true, true, true, true, false] rfl rfl (any_of HT_.out (by kernel_rfl)) (fun _ _ _ h => h) (Or.inl ⟨by rfl, ?_⟩) ?_ ?_
  rotate_left
  · intro w'
    go_simp
    with_reducible rfl
  rotate_left
  · simp only [Act.put, List.setIfInBounds_toArray, List.set_cons_zero, List.set_cons_succ, i64_w, i32_w]
    rfl
  refine pure_ (i := 7) (N := some 5) (v := ?_) (a' := ?_) #[true, true, true, true, true, true, true, true] rfl rfl (any_of HT_.out (by kernel_rfl)) (fun _ _ _ h => h) (Or.inl ⟨by rfl, ?_⟩) ?_ ?_
  rotate_left
  · intro w'
    go_simp
    with_reducible rfl
  rotate_left
  · simp only [Act.put, List.setIfInBounds_toArray, List.set_cons_zero, List.set_cons_succ, i64_w, i32_w]
    rfl
  refine done_ (done_of HT_.out (by kernel_rfl)) ?_
  go_wp2
  go_ret
  exact ⟨rfl, (HBd.out.trans (hb1.mono HBd.out.size)).trans (hb2.mono (Nat.le_trans HBd.out.size hb1.size))⟩

end Go.Proofs.Ytnbcdbkhpdpjgaa.H
