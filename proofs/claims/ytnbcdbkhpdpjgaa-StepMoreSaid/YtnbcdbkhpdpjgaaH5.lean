/- step.Steps: all possible steps of a span. -/
import Derived.Test.YtnbcdbkhpdpjgaaH4
namespace Go.Proofs.Ytnbcdbkhpdpjgaa.H
open Go.RowKit Go.Proofs.YtnbcdbkhpdpjgaaW.PrintWords Go.Proofs.YtnbcdbkhpdpjgaaW.PrintLast Go.Proofs.YtnbcdbkhpdpjgaaW.PrintMore
open Go.Shelf Go.Proofs.Ytnbcdbkhpdpjgaa.QA
set_option linter.unusedVariables false
set_option linter.unusedSimpArgs false

theorem blk_new (w : World) (o : Obj) : (w.alloc o).heap[w.heap.size]? = some o := by
  show (w.heap.push o)[w.heap.size]? = _
  simp
theorem blk_new2 (w : World) (o1 o2 : Obj) : ((w.alloc o1).alloc o2).heap[w.heap.size + 1]? = some o2 := by
  have := blk_new (w.alloc o1) o2
  rwa [World.size_alloc] at this

/-- Possible steps, from s on, n numbers. -/
def stepsFrom (off : Int) (ls : List (List Int)) : Nat → Int → List Int
  | 0, _ => []
  | n + 1, s => (if ls.all (allowsB off s) = true then [s] else []) ++ stepsFrom off ls n (s + 1)
def spanBad (lo hi : Int) : Bool := decide (lo < 1) || (decide (hi < lo) || decide (1000 < hi))
def step_Steps.f (a0_0 : Int) (l0_1 : List (List Int)) (a1_0 a1_1 : Int) : Option (List Int × Int) :=
  (step_Check.f a0_0 l0_1).bind fun e => if e = 0 then (if spanBad a1_0 a1_1 = true then some ([], 3) else some (stepsFrom a0_0 l0_1 (a1_1 - a1_0 + 1).toNat a1_0, 0)) else some ([], e)

theorem chkRows_ok : ∀ (ls : List (List Int)), chkRows ls = 0 → ∀ l ∈ ls, 0 < l.length ∧ l.length ≤ 12 ∧ ∀ p ∈ l, 0 ≤ p ∧ p ≤ 1000000 := by
  intro ls
  induction ls with
  | nil => intro _ l h; cases h
  | cons a ls ih =>
    intro h l hl
    unfold chkRows at h
    split at h
    · cases h
    · split at h
      · cases h
      · split at h
        · cases h
        · rename_i h1 h2 h3
          rcases List.mem_cons.1 hl with rfl | hl
          · refine ⟨by omega, by omega, fun p hp => ?_⟩
            have : isIn 0 p 1000000 = true := by
              cases hq : isIn 0 p 1000000 with
              | true => rfl
              | false => exact absurd (List.any_eq_true.2 ⟨p, hp, by rw [hq]; rfl⟩) h3
            unfold isIn at this
            simpa using this
          · exact ih h l hl
theorem check_ok {a : Int} {ls : List (List Int)} (h : step_Check.f a ls = some 0) : (0 ≤ a ∧ a ≤ 50) ∧ 0 < ls.length ∧ ls.length ≤ 6 ∧ ∀ l ∈ ls, 0 < l.length ∧ l.length ≤ 12 ∧ ∀ p ∈ l, 0 ≤ p ∧ p ≤ 1000000 := by
  unfold step_Check.f at h
  replace h := Option.some.inj h
  split at h
  · cases h
  · split at h
    · cases h
    · split at h
      · cases h
      · rename_i h1 h2 h3
        refine ⟨?_, by omega, by omega, chkRows_ok _ h⟩
        have : isIn 0 a 50 = true := by simpa using h1
        unfold isIn at this
        simpa using this

set_option maxHeartbeats 4000000 in
set_option maxRecDepth 100000 in
theorem step_Steps.calls (a0_0 : Int) (A0_1 : Option Addr) (c0_1 : Nat) (l0_1 : List (List Int)) (a1_0 : Int) (a1_1 : Int) (r1 : List Int) (r2 : Int) (w : World) (hr0_1 : Kd.C (Kd.slice 3 (Kd.int .i64)) w A0_1 l0_1.length l0_1) (hc0_1 : l0_1.length ≤ c0_1) (h : step_Steps.f a0_0 l0_1 a1_0 a1_1 = some (r1, r2)) :
    Calls Try.prog 27 #[.agg #[.int .i64 a0_0, .slice A0_1 l0_1.length c0_1], .agg #[.int .i64 a1_0, .int .i64 a1_1]] w fun e w' => ∃ v0_ : Value, e = .returned (.tuple #[v0_, .int .i64 r2]) ∧ Kd.R (Kd.int .i64) 3 w' w.heap.size (fun _ => True) v0_ r1 ∧ Below w.heap.size w w' := by
  have hu24 := Try.underlying24
  have hu46 := Try.underlying46
  unfold step_Steps.f at h
  obtain ⟨e, he, h⟩ := Option.bind_eq_some_iff.1 h
  have HE := Aside0.mk he
  have hm := Kd.C_max hr0_1
  have HR := Aside0.mk hr0_1
  clear hr0_1
  by_cases h0 : e = 0
  · subst h0
    rw [if_pos rfl] at h
    by_cases g1 : a1_0 < 1
    · have g1b : decide (a1_0 < 1) = true := decide_eq_true g1
      have hbad : spanBad a1_0 a1_1 = true := by unfold spanBad; simp; omega
      rw [if_pos hbad] at h
      obtain ⟨rfl, rfl⟩ := Prod.mk.inj (Option.some.inj h)
      clear hbad h
      go_enter Try.func27, Try.ntmps27
      go_wp2
      go_step3
      go_wp2_with (go_at_call 18; refine (step_Check.calls a0_0 A0_1 c0_1 l0_1 _ _ (Kd.C_alloc (Kd.C_alloc HR.out _) _) hc0_1 HE.out).mono ?_; rintro e w' ⟨rfl, hb⟩; have k0 := pw_cell_below hb (a := ⟨w.heap.size + 1, 0, none⟩) (v := .int .i64 a1_0) (by simp); have k1 := pw_cell_below hb (a := ⟨w.heap.size + 1, 1, none⟩) (v := .int .i64 a1_1) (by simp))
      rw [Exit.noGoto_ret]
      go_ret2
      exact ⟨_, rfl, Kd.R_nil _ _ _ _ _, below_then (by repeat (first | exact Below.refl _ w | apply below_alloc)) (by simp; omega) hb⟩
    have g1b : decide (a1_0 < 1) = false := decide_eq_false g1
    by_cases g2 : a1_1 < a1_0
    · have g2b : decide (a1_1 < a1_0) = true := decide_eq_true g2
      have hbad : spanBad a1_0 a1_1 = true := by unfold spanBad; simp; omega
      rw [if_pos hbad] at h
      obtain ⟨rfl, rfl⟩ := Prod.mk.inj (Option.some.inj h)
      clear hbad h
      go_enter Try.func27, Try.ntmps27
      go_wp2
      go_step3
      go_wp2_with (go_at_call 18; refine (step_Check.calls a0_0 A0_1 c0_1 l0_1 _ _ (Kd.C_alloc (Kd.C_alloc HR.out _) _) hc0_1 HE.out).mono ?_; rintro e w' ⟨rfl, hb⟩; have k0 := pw_cell_below hb (a := ⟨w.heap.size + 1, 0, none⟩) (v := .int .i64 a1_0) (by simp); have k1 := pw_cell_below hb (a := ⟨w.heap.size + 1, 1, none⟩) (v := .int .i64 a1_1) (by simp))
      rw [Exit.noGoto_ret]
      go_ret2
      exact ⟨_, rfl, Kd.R_nil _ _ _ _ _, below_then (by repeat (first | exact Below.refl _ w | apply below_alloc)) (by simp; omega) hb⟩
    have g2b : decide (a1_1 < a1_0) = false := decide_eq_false g2
    by_cases g3 : 1000 < a1_1
    · have g3b : decide (1000 < a1_1) = true := decide_eq_true g3
      have hbad : spanBad a1_0 a1_1 = true := by unfold spanBad; simp; omega
      rw [if_pos hbad] at h
      obtain ⟨rfl, rfl⟩ := Prod.mk.inj (Option.some.inj h)
      clear hbad h
      go_enter Try.func27, Try.ntmps27
      go_wp2
      go_step3
      go_wp2_with (go_at_call 18; refine (step_Check.calls a0_0 A0_1 c0_1 l0_1 _ _ (Kd.C_alloc (Kd.C_alloc HR.out _) _) hc0_1 HE.out).mono ?_; rintro e w' ⟨rfl, hb⟩; have k0 := pw_cell_below hb (a := ⟨w.heap.size + 1, 0, none⟩) (v := .int .i64 a1_0) (by simp); have k1 := pw_cell_below hb (a := ⟨w.heap.size + 1, 1, none⟩) (v := .int .i64 a1_1) (by simp))
      rw [Exit.noGoto_ret]
      go_ret2
      exact ⟨_, rfl, Kd.R_nil _ _ _ _ _, below_then (by repeat (first | exact Below.refl _ w | apply below_alloc)) (by simp; omega) hb⟩
    have g3b : decide (1000 < a1_1) = false := decide_eq_false g3
    have hbad : ¬ spanBad a1_0 a1_1 = true := by unfold spanBad; simp; omega
    rw [if_neg hbad] at h
    obtain ⟨h', rfl⟩ := Prod.mk.inj (Option.some.inj h)
    have HS := Aside0.mk h'
    have HK := Aside0.mk (check_ok he)
    clear hbad h he h'
    go_enter Try.func27, Try.ntmps27
    go_wp2
    go_step3
    go_wp2_with (go_at_call 18; refine (step_Check.calls a0_0 A0_1 c0_1 l0_1 _ _ (Kd.C_alloc (Kd.C_alloc HR.out _) _) hc0_1 HE.out).mono ?_; rintro e w1 ⟨rfl, hb⟩; have k0 := pw_cell_below hb (a := ⟨w.heap.size + 1, 0, none⟩) (v := .int .i64 a1_0) (by simp); have k1 := pw_cell_below hb (a := ⟨w.heap.size + 1, 1, none⟩) (v := .int .i64 a1_1) (by simp); have k2 := pw_cell_below hb (a := ⟨w.heap.size, 0, none⟩) (v := .int .i64 a0_0) (by simp); have k3 := pw_cell_below hb (a := ⟨w.heap.size, 1, none⟩) (v := .slice A0_1 l0_1.length c0_1) (by simp); have BK0 := Aside0.mk (blk_below (g := w.heap.size) (o := .cells #[.int .i64 a0_0, .slice A0_1 l0_1.length c0_1] 24) (blk_alloc (blk_new w _) _) hb); have BK1 := Aside0.mk (blk_below (g := w.heap.size + 1) (o := .cells #[.int .i64 a1_0, .int .i64 a1_1] 46) (blk_new2 w _ _) hb); have HB := Aside0.mk (below_then (B := w.heap.size) (by repeat (first | exact Below.refl _ w | apply below_alloc)) (by simp; omega) hb); clear hb)
    go_step3
    go_wp2
    go_loopg [8, 9] (a1_1 - a1_0 + 1).toNat (fun gg v8 s9 wr => ∃ (s : Int) (acc : List Int), s9 = .int .i64 s ∧ Aside0 (a1_0 ≤ s ∧ s ≤ a1_1 + 1 ∧ (a1_1 + 1 - s).toNat ≤ gg) ∧ Aside0 ((acc.length : Int) ≤ s - a1_0) ∧ Aside0 (acc ++ stepsFrom a0_0 l0_1 (a1_1 + 1 - s).toNat s = r1) ∧ Aside0 (Kd.R (Kd.int .i64) 3 wr w.heap.size (fun _ => True) v8 acc) ∧ Aside0 (Below w.heap.size w wr) ∧ Aside0 (wr.heap[w.heap.size]? = some (.cells #[.int .i64 a0_0, .slice A0_1 l0_1.length c0_1] 24)) ∧ Aside0 (wr.heap[w.heap.size + 1]? = some (.cells #[.int .i64 a1_0, .int .i64 a1_1] 46)))
    case atStart => exact ⟨a1_0, [], rfl, ⟨by omega, by omega, by omega⟩, ⟨by simp⟩, ⟨by rw [show a1_1 + 1 - a1_0 = a1_1 - a1_0 + 1 by omega]; exact HS.out⟩, ⟨Kd.R_nil _ _ _ _ _⟩, HB, BK0, BK1⟩
    case round =>
      clear HS k0 k1 k2 k3 HB BK0 BK1
      obtain ⟨s, acc, rfl, HS1, HL, HA, HO, HB, BK0, BK1⟩ := hrel
      have k2 : wr.cell? ⟨w.heap.size, 0, none⟩ = some (.int .i64 a0_0) := (blk_cell BK0.out 0).trans rfl
      have k3 : wr.cell? ⟨w.heap.size, 1, none⟩ = some (.slice A0_1 l0_1.length c0_1) := (blk_cell BK0.out 1).trans rfl
      have k1 : wr.cell? ⟨w.heap.size + 1, 1, none⟩ = some (.int .i64 a1_1) := (blk_cell BK1.out 1).trans rfl
      have hz := HB.out.size
      by_cases hs : s ≤ a1_1
      · have hsb : decide (s ≤ a1_1) = true := decide_eq_true hs
        have HSS := Aside0.mk (show s < a1_1 + 1 ∧ 1 ≤ s ∧ s ≤ 1000 from ⟨by omega, by have := HS1.out; omega, by omega⟩)
        have hs64 : wrap64 (s + 1) = s + 1 := w64 _ (by have := HSS.out; omega) (by have := HSS.out; omega)
        have HW := Aside0.mk hs64
        clear hs hs64
        obtain ⟨W0, HW0⟩ : ∃ W0 : World, Aside0 (wr = W0) := ⟨wr, ⟨rfl⟩⟩
        go_wp2
        go_loopg [47] l0_1.length (fun g2 s47 wi => ∃ jj : Nat, jj ≤ l0_1.length ∧ l0_1.length - jj ≤ g2 ∧ s47 = .int .i64 jj ∧ Aside0 (Below wr.heap.size wr wi) ∧ Aside0 ((l0_1.take jj).all (allowsB a0_0 s) = true))
        case atStart => exact ⟨0, Nat.zero_le _, by omega, rfl, ⟨Below.refl _ _⟩, ⟨by simp⟩⟩
        case round =>
          obtain ⟨jj, hjj, hgj, rfl, HBi, HAll⟩ := hrel
          have hz1 := HBi.out.size
          by_cases hlt : jj < l0_1.length
          · have hltz : (jj : Int) < (l0_1.length : Int) := by omega
            obtain ⟨ad, A1, c1, e1, hx, hc1, hr1⟩ := at_L1 HR.out jj (by omega) hltz
            cases e1
            rw [Int.toNat_natCast] at hx
            have HBw := Aside0.mk (below_then HB.out HB.out.size HBi.out)
            replace hx := (HBw.out.cell (World.block_lt_of_cell? w _ hx)).trans hx
            replace hr1 := Kd.C_below hr1 HBw.out
            have e : rd_L1 l0_1 jj = l0_1[jj] := by unfold rd_L1; rw [Int.toNat_natCast, List.getD_eq_getElem?_getD, List.getElem?_eq_getElem hlt]; rfl
            have htk : (l0_1.take (jj + 1)).all (allowsB a0_0 s) = ((l0_1.take jj).all (allowsB a0_0 s) && allowsB a0_0 s (rd_L1 l0_1 jj)) := by
              rw [e, List.take_succ_eq_append_getElem hlt, List.all_append]; simp
            have hall : allowsB a0_0 s (rd_L1 l0_1 jj) = false → l0_1.all (allowsB a0_0 s) = false := fun hq => by
              rw [List.all_eq_false]; exact ⟨l0_1[jj], List.getElem_mem hlt, by rw [← e, hq]; simp⟩
            have hy : step_Sheet_allows.f a0_0 l0_1 (rd_L1 l0_1 jj) s = some (allowsB a0_0 s (rd_L1 l0_1 jj)) := by
              have hk := HK.out
              have h2 := hk.2.2.2 _ (List.getElem_mem hlt)
              unfold step_Sheet_allows.f
              rw [e, if_pos ⟨⟨HSS.out.2.1, by have := HSS.out; omega⟩, ⟨hk.1.1, by omega⟩, h2.2.2, by omega⟩]
            generalize rd_L1 l0_1 jj = y at hx hc1 hr1 htk hall hy
            clear e
            have HY := Aside0.mk hy
            have HT := Aside0.mk htk
            have HQ := Aside0.mk hall
            have H1 := Aside0.mk hr1
            clear hy htk hall hr1
            cases hq : allowsB a0_0 s y with
            | false =>
              have HQ' := Aside0.mk (HQ.out hq)
              rw [hq] at HY HT
              clear hq HQ
              go_wp2_with (go_at_call 55; refine (step_Sheet_allows.calls a0_0 (some ad) c0_1 l0_1 A1 c1 y s false _ (Kd.C_below HR.out HBw.out) hc0_1 H1.out hc1 HY.out).mono ?_; rintro e w2 ⟨rfl, hb2⟩)
              go_roundg (a1_1 + 1 - (s + 1)).toNat
              case measure => have := HS1.out; have := HSS.out; omega
              case rel =>
                refine ⟨s + 1, acc, ?_, ?_, ?_, ?_, ?_, ?_, ?_, ?_⟩
                · rw [HW.out]
                · exact ⟨by have := HS1.out; omega, by have := HSS.out; omega, Nat.le_refl _⟩
                · exact ⟨by have := HL.out; omega⟩
                · refine ⟨?_⟩
                  have := HA.out
                  rw [show (a1_1 + 1 - s).toNat = (a1_1 + 1 - (s + 1)).toNat + 1 by have := HSS.out; omega] at this
                  rw [stepsFrom, HQ'.out] at this
                  simpa using this
                · exact ⟨Kd.R_below HO.out (HBi.out.trans (hb2.mono hz1))⟩
                · exact ⟨below_then HBw.out HBw.out.size hb2⟩
                · exact ⟨blk_below (blk_below BK0.out HBi.out) hb2⟩
                · exact ⟨blk_below (blk_below BK1.out HBi.out) hb2⟩
            | true =>
              rw [hq] at HY HT
              clear hq HQ
              go_wp2_with (go_at_call 55; refine (step_Sheet_allows.calls a0_0 (some ad) c0_1 l0_1 A1 c1 y s true _ (Kd.C_below HR.out HBw.out) hc0_1 H1.out hc1 HY.out).mono ?_; rintro e w2 ⟨rfl, hb2⟩)
              go_roundg (l0_1.length - (jj + 1))
              case measure => omega
              case rel => exact ⟨jj + 1, by omega, by omega, by go_num, ⟨HBi.out.trans (hb2.mono hz1)⟩, ⟨by rw [HT.out, HAll.out]; rfl⟩⟩
          · have hltz : ¬ (jj : Int) < (l0_1.length : Int) := by omega
            have : jj = l0_1.length := by omega
            subst this
            have HAll' := HAll.out
            rw [List.take_length] at HAll'
            have HQ' := Aside0.mk HAll'
            clear HAll HAll'
            have HBw := Aside0.mk (below_then HB.out HB.out.size HBi.out)
            have HO' := Aside0.mk (Kd.R_below HO.out HBi.out)
            have BK0' := Aside0.mk (blk_below BK0.out HBi.out)
            have BK1' := Aside0.mk (blk_below BK1.out HBi.out)
            have NE0 := Aside0.mk (Kd.R_ne HO'.out BK0'.out (by decide))
            have NE1 := Aside0.mk (Kd.R_ne HO'.out BK1'.out (by decide))
            go_wp2_with ((with_reducible refine gate_builtin (b := .append) (xs := #[.tmp 57, .tmp 59]) rfl ?_); at_builtin; refine Kd.R_append (Kd.int .i64) (w0 := w) w.heap.size rfl (.tmp 57) (.tmp 59) 34 3 (.int .i64 0) 8 rfl Try.underlying34 info3 rfl (by decide) (by omega) u8 acc s [.int .i64 s] (fun _ => True) (fun _ => False) rfl rfl ?aP (fun _ hk => hk.elim) ?aF ?aO ?aB ?aS ?aL ?_; (case aP => exact rfl); (case aB => exact (by repeat (first | (with_reducible first | exact HBw.out | apply below_alloc | apply pw_below_drewN | apply below_drew1) | exact HBw.out))); (case aF => exact (fun _ _ => trivial)); (case aO => exact (by (with_reducible repeat (first | apply Kd.R_alloc | apply Kd.R_drewN | apply Kd.R_drew)); exact HO'.out)); (case aS => exact (below_size (by repeat (first | (with_reducible first | exact HBw.out | apply below_alloc | apply pw_below_drewN | apply below_drew1) | exact HBw.out)))); (case aL => have := HL.out; have := HSS.out; omega); intro v127 w9 ho hb hg hat; have BK0'' := Aside0.mk (blk_grown BK0'.out hg NE0.out); have BK1'' := Aside0.mk (blk_grown BK1'.out hg NE1.out); have HB9 := Aside0.mk hb; have HO9 := Aside0.mk ho; clear ho hb hg hat)
            go_roundg (a1_1 + 1 - (s + 1)).toNat
            case measure => have := HS1.out; have := HSS.out; omega
            case rel =>
              refine ⟨s + 1, acc ++ [s], ?_, ?_, ?_, ?_, HO9, HB9, BK0'', BK1''⟩
              · rw [HW.out]
              · exact ⟨by have := HS1.out; omega, by have := HSS.out; omega, Nat.le_refl _⟩
              · exact ⟨by have := HL.out; simp; omega⟩
              · refine ⟨?_⟩
                have := HA.out
                rw [show (a1_1 + 1 - s).toNat = (a1_1 + 1 - (s + 1)).toNat + 1 by have := HSS.out; omega] at this
                rw [stepsFrom, HQ'.out] at this
                simpa using this
      · have hsb : decide (s ≤ a1_1) = false := decide_eq_false hs
        have e0 : (a1_1 + 1 - s).toNat = 0 := by omega
        have e1 := HA.out
        rw [e0] at e1
        have e2 : r1 = acc := by rw [← e1]; simp [stepsFrom]
        subst e2
        clear e0 e1
        obtain ⟨Ao, co, eo⟩ := Kd.R_slice HO.out
        subst eo
        go_wp2
        try rw [Exit.noGoto_ret]
        go_ret2
        exact ⟨_, rfl, HO.out, HB.out⟩
  · rw [if_neg h0] at h
    obtain ⟨rfl, rfl⟩ := Prod.mk.inj (Option.some.inj h)
    have h0b : (e != 0) = true := bne_iff_ne.mpr h0
    have h0c : (e == 0) = false := beq_eq_false_iff_ne.mpr h0
    clear h0 h he
    go_enter Try.func27, Try.ntmps27
    go_wp2
    go_step3
    go_wp2_with (go_at_call 18; refine (step_Check.calls a0_0 A0_1 c0_1 l0_1 e _ (Kd.C_alloc (Kd.C_alloc HR.out _) _) hc0_1 HE.out).mono ?_; rintro e w' ⟨rfl, hb⟩)
    rw [Exit.noGoto_ret]
    go_ret2
    exact ⟨_, rfl, Kd.R_nil _ _ _ _ _, below_then (by repeat (first | exact Below.refl _ w | apply below_alloc)) (by simp; omega) hb⟩

end Go.Proofs.Ytnbcdbkhpdpjgaa.H
