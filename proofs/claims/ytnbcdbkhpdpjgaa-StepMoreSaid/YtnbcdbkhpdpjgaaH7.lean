/- step.Offsets: all offsets that are possible for a copy and a step. -/
import Derived.Test.YtnbcdbkhpdpjgaaH6
import Derived.Test.YtnbcdbkhpdpjgaaQA7
namespace Go.Proofs.Ytnbcdbkhpdpjgaa.H
open Go.RowKit Go.Proofs.YtnbcdbkhpdpjgaaW.PrintWords Go.Proofs.YtnbcdbkhpdpjgaaW.PrintLast Go.Proofs.YtnbcdbkhpdpjgaaW.PrintMore
open Go.Shelf Go.Proofs.Ytnbcdbkhpdpjgaa.QA
attribute [local go_sem] Oper.semAt_some
set_option linter.unusedVariables false
set_option linter.unusedSimpArgs false

set_option maxRecDepth 100000 in
set_option maxHeartbeats 1000000 in
/-- (step.Sheet).offsets: its three arguments are boxed, the function value captures the boxes. -/
theorem offsets_in (n : Nat) (off step : Int) (A0 : Option Addr) (n0 c0 : Nat) (A1 : Option Addr) (n1 c1 : Nat) (w : World) :
    CallsIn Fence.wide n Try.prog 49 #[.agg #[.int .i64 off, .slice A0 n0 c0], .slice A1 n1 c1, .int .i64 step] w fun e w' =>
      e = .returned (.func (.func 62) #[] #[.pointer (some ⟨w.heap.size, 0, none⟩), .pointer (some ⟨w.heap.size + 1, 0, none⟩), .pointer (some ⟨w.heap.size + 2, 0, none⟩)]) ∧
      w' = ((w.alloc (.cells #[.int .i64 off, .slice A0 n0 c0] 24)).alloc (.cells #[.slice A1 n1 c1] 34)).alloc (.cells #[.int .i64 step] 3) := by
  have hu24 := Try.underlying24
  refine callsIn_of_wp Try.func49 rfl trivial ?_ rfl
  simp only [Try.ntmps49, List.size_toArray, List.length_cons, List.length_nil, Nat.reduceAdd, Nat.reduceSub, Array.replicate_succ, Array.replicate_zero, List.push_toArray, List.append_toArray, List.nil_append, List.cons_append]
  gi_wp2
  go_ret
  exact ⟨rfl, rfl⟩

/-- The iterator's contract. -/
theorem offs_stops (n : Nat) (hn : 1 ≤ n) (B1 B2 B3 n₀ : Nat) (off step : Int) (A0 : Option Addr) (c0 : Nat) (ls : List (List Int)) (A1 : Option Addr) (c1 : Nat) (l : List Int) (arcs : List S98) (w : World)
    (h10 : w.cell? ⟨B1, 0, none⟩ = some (.int .i64 off)) (h11 : w.cell? ⟨B1, 1, none⟩ = some (.slice A0 ls.length c0)) (h2 : w.cell? ⟨B2, 0, none⟩ = some (.slice A1 l.length c1)) (h3 : w.heap[B3]? = some (.cells #[.int .i64 step] 3 (0, 0)))
    (hr0 : Kd.C (Kd.slice 3 (Kd.int .i64)) w A0 ls.length ls) (hc0 : ls.length ≤ c0) (hr1 : Kd.C (Kd.int .i64) w A1 l.length l) (hc1 : l.length ≤ c1)
    (hs : 1 ≤ step) (hs2 : step ≤ 1000000) (ha : step_Sheet_arcs.f (l.length + 1) off ls l step = some arcs) (hin : ∀ b ∈ arcs, 0 ≤ b.f0 ∧ b.f0 < step) :
    SeqStopsK Fence.wide n Try.prog 62 #[.pointer (some ⟨B1, 0, none⟩), .pointer (some ⟨B2, 0, none⟩), .pointer (some ⟨B3, 0, none⟩)] (fun x : Int => #[Value.int .i64 x]) (KpO n₀ B3) (fun ys => ys = offsTo arcs step step.toNat) (fun _ => True) step.toNat w :=
  fun lp J Jx W hW hJ _ hY h0 => offs1_in n hn lp B1 B2 B3 n₀ off step A0 c0 ls A1 c1 l arcs J Jx hY W hJ (pw_cell_below hW h10) (pw_cell_below hW h11) (pw_cell_below hW h2) (blk_below h3 hW)
    (Kd.C_below hr0 hW) hc0 (Kd.C_below hr1 hW) hc1 hs hs2 ha hin h0

/-- The offsets that are possible for positions. -/
def offsOf (off step : Int) (l : List Int) : List Int := offsTo (arcsOf off step l) step step.toNat
def step_Offsets.f (a0_0 : Int) (l0_1 : List (List Int)) (a1 a2 : Int) : Option (List Int × Int) :=
  (step_Sheet_asked.f a0_0 l0_1 a1 a2).bind fun r => if r.2 = 0 then (if (1 ≤ a2 ∧ a2 ≤ 1000000) ∧ (0 ≤ a0_0 ∧ a0_0 ≤ 1000) ∧ (∀ p ∈ r.1, 0 ≤ p ∧ p ≤ 1000000) ∧ r.1.length ≤ 100000 then some (offsOf a0_0 a2 r.1, 0) else none) else some ([], r.2)

theorem V_of_C {w W : World} {A : Option Addr} {l : List (List Int)} {c : Nat} (hr : Kd.C (Kd.slice 3 (Kd.int .i64)) w A l.length l) (hc : l.length ≤ c) (hb : Below w.heap.size w W) :
    Kd.V (Kd.slice 3 (Kd.int .i64)) 34 W W.heap.size (fun k => k < w.heap.size) (.slice A l.length c) l :=
  Kd.V_mk hc (Kd.F_below (Kd.C_F (Kd.heap_slice 3 (Kd.heap_int .i64)) hr) hb)

theorem appended2 {W w1 : World} {n₀ base B : Nat} {t e : TypeId} {size : Nat} {v v' : Value} {k m : Nat} {xs ys : List Value} {tmp : Obj}
    (hv : Boxed W B t v) (hte : t ≠ e) (hrow : W.ownsRow base e size v k xs) (hn : n₀ ≤ base) (hbase : base ≤ W.heap.size) (hB : n₀ ≤ B)
    (hown' : w1.ownsRow base e size v' m ys) (hgrow : (W.alloc tmp).grownBy w1 v.ownBlock) :
    Boxed w1 B t v ∧ Boxed (w1.setCell ⟨B, 0, none⟩ v') B t v' ∧ (w1.setCell ⟨B, 0, none⟩ v').ownsRow base e size v' m ys ∧ KeepsOthers W (w1.setCell ⟨B, 0, none⟩ v') ∧ Below n₀ W (w1.setCell ⟨B, 0, none⟩ v') ∧
      ∀ g, g < W.heap.size → g ≠ B → some g ≠ v.ownBlock → (w1.setCell ⟨B, 0, none⟩ v').heap[g]? = W.heap[g]? := by
  have hv1 : Boxed w1 B t v := (hv.alloc tmp).kept hgrow (hv.not_row hte hrow)
  refine ⟨hv1, hv1.set v', hown'.kept (grownBy_setCell' w1 B v') (.inr (hv1.not_row hte hown').symm), ?_, ?_, ?_⟩
  · refine ((KeepsOthers.alloc W tmp).trans (KeepsOthers.of_grownBy hgrow fun j o ej hj => ?_)).trans (KeepsOthers.setCell _ _ _)
    rcases (hrow.alloc tmp).2 with ⟨rfl, _⟩ | ⟨g, cap, cur, rfl, _, hgb, _⟩
    · simp [Value.ownBlock] at ej
    · obtain rfl : g = j := by simpa [Value.ownBlock] using ej
      rw [hgb] at hj; cases hj; rfl
  · refine (((Below.refl n₀ W).alloc (Nat.le_trans hn hbase) tmp).grown hgrow (by simp; omega) fun j ej => ?_).setCell (p := ⟨B, 0, none⟩) hB v'
    exact Nat.le_trans hn (own_base hrow j ej)
  · intro g hg hne hr
    rw [Below.heap_setCell _ _ _ _ hne, hgrow.block g (by simp; omega) hr, Below.heap_alloc _ _ _ hg]

set_option maxHeartbeats 4000000 in
set_option maxRecDepth 100000 in
theorem step_Offsets.calls (a0_0 : Int) (A0_1 : Option Addr) (c0_1 : Nat) (l0_1 : List (List Int)) (a1 : Int) (a2 : Int) (r1 : List Int) (r2 : Int) (w : World) (hr0_1 : Kd.C (Kd.slice 3 (Kd.int .i64)) w A0_1 l0_1.length l0_1) (hc0_1 : l0_1.length ≤ c0_1) (h : step_Offsets.f a0_0 l0_1 a1 a2 = some (r1, r2)) :
    Calls Try.prog 21 #[.agg #[.int .i64 a0_0, .slice A0_1 l0_1.length c0_1], .int .i64 a1, .int .i64 a2] w fun e w' => ∃ v0_ : Value, e = .returned (.tuple #[v0_, .int .i64 r2]) ∧ Kd.R (Kd.int .i64) 3 w' w.heap.size (fun _ => True) v0_ r1 ∧ Below w.heap.size w w' := by
  have hu24 := Try.underlying24
  unfold step_Offsets.f at h
  obtain ⟨⟨l, e⟩, he, h⟩ := Option.bind_eq_some_iff.1 h
  have HE := Aside0.mk he
  have HR := Aside0.mk hr0_1
  clear hr0_1 he
  dsimp only at h
  by_cases h0 : e = 0
  · subst h0
    rw [if_pos rfl] at h
    split at h
    case isFalse => cases h
    case isTrue hh =>
    obtain ⟨h', rfl⟩ := Prod.mk.inj (Option.some.inj h)
    obtain ⟨⟨h1, h2⟩, ⟨h3, h4⟩, hp, hl⟩ := hh
    have HIn := Aside0.mk (arcsOf_in a0_0 a2 h1 l [] (by simp))
    have HF := Aside0.mk (arcs_spec a0_0 a2 l0_1 l h1 h2 h3 h4 hp hl)
    have HRes := Aside0.mk h'
    clear h h' hp
    obtain ⟨i0, hi, hz0, hz1, hz2⟩ := info_parts info3
    refine (callsIn_wide (n := 3)).1 ?_
    refine callsIn_of_wp_marks Try.func21 rfl trivial ?_ rfl
    simp only [Try.ntmps21, List.size_toArray, List.length_cons, List.length_nil, Nat.reduceAdd, Nat.reduceSub, Array.replicate_succ, Array.replicate_zero, List.push_toArray, List.append_toArray, List.nil_append, List.cons_append]
    gi_wp2_with (first | (refine ⟨trivial, ?_⟩; gi_at_call 48; refine (callsIn_wide.2 (step_Sheet_asked.calls a0_0 (fun k => k < w.heap.size) A0_1 c0_1 l0_1 a1 a2 l 0 _ (V_of_C HR.out hc0_1 (below_alloc (Below.refl _ _) _)) HE.out)).mono ?_; rintro e w1 ⟨v, rfl, hV, hb⟩; obtain ⟨A1, c1, rfl, hc1, hFl⟩ := hV; have hk0 := pw_cell_below hb (a := ⟨w.heap.size, 0, none⟩) (v := .int .i64 a0_0) (by simp); have hk1 := pw_cell_below hb (a := ⟨w.heap.size, 1, none⟩) (v := .slice A0_1 l0_1.length c0_1) (by simp); have HL := Aside0.mk (Kd.F_now hFl); have hlt : w.heap.size < w1.heap.size := World.block_lt_of_cell? w1 _ hk0; have HB := Aside0.mk (below_then (B := w.heap.size) (below_alloc (Below.refl _ w) _) (by simp) hb); clear hFl hb) | (refine ⟨trivial, ?_⟩; gi_at_call 49; refine (offsets_in _ a0_0 a2 A0_1 l0_1.length c0_1 A1 l.length c1 _).mono ?_; rintro e w2 ⟨rfl, rfl⟩))
    have hB0 : Below w.heap.size w ((((w1.alloc (Obj.cells #[Value.slice none 0 0] 34)).alloc (Obj.cells #[Value.int IntKind.i64 a0_0, Value.slice A0_1 l0_1.length c0_1] 24)).alloc (Obj.cells #[Value.slice A1 l.length c1] 34)).alloc (Obj.cells #[Value.int IntKind.i64 a2] 3)) := (by repeat (first | exact HB.out | apply below_alloc))
    have bO : Boxed ((((w1.alloc (Obj.cells #[Value.slice none 0 0] 34)).alloc (Obj.cells #[Value.int IntKind.i64 a0_0, Value.slice A0_1 l0_1.length c0_1] 24)).alloc (Obj.cells #[Value.slice A1 l.length c1] 34)).alloc (Obj.cells #[Value.int IntKind.i64 a2] 3)) w1.heap.size 34 (.slice none 0 0) := (((Boxed.new w1 34 (.slice none 0 0)).alloc _).alloc _).alloc _
    have h10 : ((((w1.alloc (Obj.cells #[Value.slice none 0 0] 34)).alloc (Obj.cells #[Value.int IntKind.i64 a0_0, Value.slice A0_1 l0_1.length c0_1] 24)).alloc (Obj.cells #[Value.slice A1 l.length c1] 34)).alloc (Obj.cells #[Value.int IntKind.i64 a2] 3)).cell? ⟨w1.heap.size + 1, 0, none⟩ = some (.int .i64 a0_0) := (blk_cell (blk_alloc (blk_alloc (blk_new2 w1 _ _) _) _) 0).trans rfl
    have h11 : ((((w1.alloc (Obj.cells #[Value.slice none 0 0] 34)).alloc (Obj.cells #[Value.int IntKind.i64 a0_0, Value.slice A0_1 l0_1.length c0_1] 24)).alloc (Obj.cells #[Value.slice A1 l.length c1] 34)).alloc (Obj.cells #[Value.int IntKind.i64 a2] 3)).cell? ⟨w1.heap.size + 1, 1, none⟩ = some (.slice A0_1 l0_1.length c0_1) := (blk_cell (blk_alloc (blk_alloc (blk_new2 w1 _ _) _) _) 1).trans rfl
    have h2c : ((((w1.alloc (Obj.cells #[Value.slice none 0 0] 34)).alloc (Obj.cells #[Value.int IntKind.i64 a0_0, Value.slice A0_1 l0_1.length c0_1] 24)).alloc (Obj.cells #[Value.slice A1 l.length c1] 34)).alloc (Obj.cells #[Value.int IntKind.i64 a2] 3)).cell? ⟨w1.heap.size + 1 + 1, 0, none⟩ = some (.slice A1 l.length c1) := by
      have := blk_cell (blk_alloc (blk_new2 (w1.alloc (Obj.cells #[Value.slice none 0 0] 34)) (Obj.cells #[Value.int IntKind.i64 a0_0, Value.slice A0_1 l0_1.length c0_1] 24) (Obj.cells #[Value.slice A1 l.length c1] 34)) (Obj.cells #[Value.int IntKind.i64 a2] 3)) 0
      simp only [World.size_alloc] at this
      exact this.trans rfl
    have h3b : ((((w1.alloc (Obj.cells #[Value.slice none 0 0] 34)).alloc (Obj.cells #[Value.int IntKind.i64 a0_0, Value.slice A0_1 l0_1.length c0_1] 24)).alloc (Obj.cells #[Value.slice A1 l.length c1] 34)).alloc (Obj.cells #[Value.int IntKind.i64 a2] 3)).heap[w1.heap.size + 1 + 2]? = some (.cells #[.int .i64 a2] 3 (0, 0)) := by
      have := blk_new (((w1.alloc (Obj.cells #[Value.slice none 0 0] 34)).alloc (Obj.cells #[Value.int IntKind.i64 a0_0, Value.slice A0_1 l0_1.length c0_1] 24)).alloc (Obj.cells #[Value.slice A1 l.length c1] 34)) (Obj.cells #[Value.int IntKind.i64 a2] 3)
      simp only [World.size_alloc] at this
      exact this
    have hC0 := Kd.C_below HR.out hB0
    have hC1 : Kd.C (Kd.int .i64) ((((w1.alloc (Obj.cells #[Value.slice none 0 0] 34)).alloc (Obj.cells #[Value.int IntKind.i64 a0_0, Value.slice A0_1 l0_1.length c0_1] 24)).alloc (Obj.cells #[Value.slice A1 l.length c1] 34)).alloc (Obj.cells #[Value.int IntKind.i64 a2] 3)) A1 l.length l := Kd.C_alloc (Kd.C_alloc (Kd.C_alloc (Kd.C_alloc HL.out _) _) _) _
    have hwl : ((((w1.alloc (Obj.cells #[Value.slice none 0 0] 34)).alloc (Obj.cells #[Value.int IntKind.i64 a0_0, Value.slice A0_1 l0_1.length c0_1] 24)).alloc (Obj.cells #[Value.slice A1 l.length c1] 34)).alloc (Obj.cells #[Value.int IntKind.i64 a2] 3)).heap.size = w1.heap.size + 4 := by simp
    generalize ((((w1.alloc (Obj.cells #[Value.slice none 0 0] 34)).alloc (Obj.cells #[Value.int IntKind.i64 a0_0, Value.slice A0_1 l0_1.length c0_1] 24)).alloc (Obj.cells #[Value.slice A1 l.length c1] 34)).alloc (Obj.cells #[Value.int IntKind.i64 a2] 3)) = wl at hB0 bO h10 h11 h2c h3b hC0 hC1 hwl ⊢
    clear hk0 hk1 HB HL
    refine wpIn_rangeFunc_ownG rfl (by omega) (gf := 62) (lb := #[.pointer (some ⟨w1.heap.size + 1, 0, none⟩), .pointer (some ⟨w1.heap.size + 1 + 1, 0, none⟩), .pointer (some ⟨w1.heap.size + 1 + 2, 0, none⟩)]) rfl trivial (enters_of Try.func62 (by kernel_rfl) rfl)
      (offs_stops _ (by omega) (w1.heap.size + 1) (w1.heap.size + 1 + 1) (w1.heap.size + 1 + 2) w.heap.size a0_0 a2 A0_1 c0_1 l0_1 A1 c1 l (arcsOf a0_0 a2 l) wl h10 h11 h2c h3b hC0 hc0_1 hC1 hc1 h1 h2 HF.out HIn.out) KpO.trans' (KpO.putObj (by omega)) (Below.refl _ _) (fun _ => rfl)
      (fun pre W => ((∃ v, Boxed W w1.heap.size 34 v ∧ W.ownsRow wl.heap.size 3 1 v pre.length (pre.map (Value.int .i64)) ∧ True) ∧ Below w.heap.size w W) ∧ wl.heap.size ≤ W.heap.size)
      (fun _ _ _ => False)
      (OwnFrom.and (OwnFrom.and (Own.from (holdsRow_own wl.heap.size w1.heap.size 34 3 1 (fun pre : List Int => pre.length) (fun pre => pre.map (Value.int .i64)) (fun _ _ => True)) _) (ownFrom_below (Nat.le_refl _) (by omega))) (fun _ _ _ _ hs hg _ => Nat.le_trans hs hg.size))
      (fun _ _ _ _ _ hs _ _ => hs)
      ⟨⟨⟨_, bO, World.ownsRow_nil _ _ _ _, trivial⟩, hB0⟩, Nat.le_refl _⟩
      (fun x => { tmps := #[.agg #[.int .i64 a0_0, .slice A0_1 l0_1.length c0_1], .int .i64 a1, .int .i64 a2, .pointer (some ⟨w.heap.size, 0, none⟩), undef, undef, .slice none 0 0, .int .i64 0, .slice A1 l.length c1, .int .i64 0, .pointer (some ⟨w1.heap.size, 0, none⟩), .int .i64 x, .tuple #[.slice A1 l.length c1, .int .i64 0], .agg #[.int .i64 a0_0, .slice A0_1 l0_1.length c0_1], .int .i64 a1, .int .i64 a2, .tuple #[.slice A1 l.length c1, .int .i64 0], .slice A1 l.length c1, .int .i64 0, .int .i64 0, .bool false, undef, .agg #[.int .i64 a0_0, .slice A0_1 l0_1.length c0_1], .slice A1 l.length c1, .int .i64 a2, .func (.func 62) #[] #[.pointer (some ⟨w1.heap.size + 1, 0, none⟩), .pointer (some ⟨w1.heap.size + 1 + 1, 0, none⟩), .pointer (some ⟨w1.heap.size + 1 + 2, 0, none⟩)], .int .i64 x, undef, undef, undef, undef, undef], defers := [] }) ?assign ?body ?done ?stop
    case assign =>
      intro lp x W K hK
      gi_wp2
      exact hK
    case body =>
      rintro lp pre x W ⟨⟨⟨v, hv, hrow, _⟩, hB⟩, hz⟩ hlt
      have hc := hv.cell
      have hst : a2.toNat ≤ 1000000 := by omega
      gi_wp2_with (gi_at_builtin; refine wpListIn_append_own _ rfl _ _ 34 rfl wl.heap.size 3 i0 (.int .i64 0) 1 8 Try.underlying34 hi hz0 hz1 hz2 rfl (by decide) _ _ _ rfl (hrow.alloc _) ⟨W.heap.size, 0, none⟩ 1 1 [.int .i64 x] rfl rfl (cell_one_new _ _ _) (by simp [Value.oneCell']) (by unfold maxLen; omega) (by omega) (by simp; omega) ?_; intro v' wa hown' hgrow _; obtain ⟨g', cap', rfl⟩ := ownsRow_succ hown'; obtain ⟨hv1, hv2, hr2, hk2, hb2, hother⟩ := appended2 (n₀ := w.heap.size) hv (by decide) hrow (by omega) hz (by omega) hown' hgrow; have hc1 := hv1.cell; have hf1 := hv1.frozen)
      refine ⟨hk2.from _, ⟨hb2, ?_, ?_⟩, ⟨⟨_, hv2, by simpa using hr2, trivial⟩, hB.trans hb2⟩, Nat.le_trans hz hb2.size⟩
      · intro g cs hg
        rw [hother g (blk_lt hg) (fun e => by subst e; rw [show W.heap[_]? = _ from hv] at hg; cases hg) (own_ne hrow hg (by decide))]; exact hg
      · intro cs t fz hg
        rw [hother _ (blk_lt hg) (by omega) (fun e => by have := own_base hrow _ e.symm; omega)]; exact hg
    case done =>
      rintro D ys W hD rfl ⟨⟨⟨v, hv, hrow, _⟩, hB⟩, hz⟩ hK
      have hc := hv.cell
      gi_wp2
      refine ⟨by simp, .inl ⟨_, _, rfl, run_takeDeferred hK, ?_⟩⟩
      refine ⟨_, results_tmp2 rfl _ _ _, v, rfl, ?_, hB.trans (belowK_b (w := w) (Nat.le_refl _) W D _ _ (by omega) hK rfl rfl)⟩
      rw [← HRes.out]
      exact Kd.R_lower (Kd.R_of_own (by unfold offsOf; simpa [encs] using ownsRow_putObj hrow _ hK rfl) (fun _ _ => trivial)) (by omega)
    case stop =>
      rintro D c pre W _ _ h _
      exact h.elim
  · rw [if_neg h0] at h
    obtain ⟨rfl, rfl⟩ := Prod.mk.inj (Option.some.inj h)
    have h0b : (e != 0) = true := bne_iff_ne.mpr h0
    clear h0 h
    go_enter Try.func21, Try.ntmps21
    go_wp2_with (go_at_call 48; refine (step_Sheet_asked.calls a0_0 (fun k => k < w.heap.size) A0_1 c0_1 l0_1 a1 a2 l e _ (V_of_C HR.out hc0_1 (below_alloc (Below.refl _ _) _)) HE.out).mono ?_; rintro e w' ⟨v, rfl, hV, hb⟩)
    go_ret2
    exact ⟨_, rfl, Kd.R_nil _ _ _ _ _, below_then (below_alloc (Below.refl _ w) _) (by simp) hb⟩

end Go.Proofs.Ytnbcdbkhpdpjgaa.H
