/- step.Clash: the fewest positions of a copy that exclude a step. -/
import Derived.Test.YtnbcdbkhpdpjgaaH9
import Derived.WalkSpells
namespace Go.Proofs.Ytnbcdbkhpdpjgaa.H
open Go.RowKit Go.Proofs.YtnbcdbkhpdpjgaaW.PrintWords Go.Proofs.YtnbcdbkhpdpjgaaW.PrintLast Go.Proofs.YtnbcdbkhpdpjgaaW.PrintMore
open Go.Shelf Go.Proofs.Ytnbcdbkhpdpjgaa.QA
set_option linter.unusedVariables false
set_option linter.unusedSimpArgs false

set_option maxHeartbeats 1000000 in
set_option maxRecDepth 100000 in
/-- slices.Clone of a list that is not empty. -/
theorem clone (A : Option Addr) (c : Nat) (l : List Int) (w : World) (hr : Kd.C (Kd.int .i64) w A l.length l) (hc : l.length ≤ c) (h0 : 0 < l.length) (hl : l.length ≤ 100000) :
    Calls Try.prog 59 #[.slice A l.length c] w fun e w' => ∃ v, e = .returned v ∧ Kd.R (Kd.int .i64) 3 w' w.heap.size (fun _ => True) v l ∧ Below w.heap.size w w' := by
  obtain ⟨ad, e1, hx⟩ := Kd.at_int hr 0 (by omega) (by omega)
  subst e1
  clear hx
  have HR := Aside0.mk hr
  clear hr
  obtain ⟨i0, hi, hz0, hz1, hz2⟩ := info_parts info3
  have hInfo := Aside0.mk (And.intro hi (And.intro hz0 (And.intro hz1 hz2)))
  clear hi hz0 hz1 hz2
  have hu := Try.underlying34
  have heq := fun w => Lib.run_eql_slice_nil (P := Try.prog) w 34 3 (some ad) l.length c 0 0 Try.underlying34
  go_enter Try.func59, Try.ntmps59
  go_wp2_with (at_builtin; refine wpList_append_grows _ rfl (.tmp 5) (.tmp 6) 34 rfl 3 i0 (.int .i64 0) 1 8 Try.underlying34 hInfo.out.1 hInfo.out.2.1 hInfo.out.2.2.1 hInfo.out.2.2.2 rfl (by decide) (some ⟨w.heap.size, 0, none⟩) 0 0 [] rfl (by simp) rfl (by simp) ad l.length c (l.map (Value.int .i64)) rfl (by simp) (fun j u hu => cells_of_C (Kd.C_alloc HR.out _) rfl hu) (by simp [Value.oneCell']) (by omega) (by unfold maxLen; omega) (by omega) ?_; intro v' w' hown hg; have HO := Aside0.mk hown; have HG := Aside0.mk hg; clear hown hg)
  go_ret
  have hB : Below w.heap.size w w' := (below_alloc (Below.refl _ w) (.cells #[] 3)).grown HG.out (by simp) (fun k e => by cases e)
  refine ⟨v', rfl, ?_, hB⟩
  have := HO.out
  simp only [World.size_alloc] at this
  exact Kd.R_lower (Kd.R_of_own (by simpa [encs] using this) (fun _ _ => trivial)) (by omega)

theorem srchLoop_all (k : Nat) (h : List Int → Bool) : ∀ (rest b : List Int), h (b ++ rest) = true → (b ++ rest).length = k → rest ≠ [] → (srchLoop k h b rest).isSome = true := by
  intro rest
  induction rest with
  | nil => intro b _ _ h3; exact absurd rfl h3
  | cons x r ih =>
    intro b h1 h2 _
    rw [srchLoop_cons]
    have e : b ++ x :: r = (b ++ [x]) ++ r := by simp
    rw [e] at h1 h2
    have : (srch k h (b ++ [x]) r).isSome = true := by
      unfold srch
      cases r with
      | nil =>
        rw [List.append_nil] at h1 h2
        rw [if_pos h2, if_pos h1]; rfl
      | cons y r' =>
        rw [if_neg (by simp at h2 ⊢; omega)]
        exact ih _ h1 h2 (by simp)
    revert this
    cases srch k h (b ++ [x]) r with
    | none => intro h; cases h
    | some v => intro _; rfl

theorem srchLoop_length (k : Nat) (h : List Int → Bool) : ∀ (rest b r : List Int), srchLoop k h b rest = some r → r.length = k := by
  intro rest
  induction rest with
  | nil => intro b r h1; cases h1
  | cons x rs ih =>
    intro b r h1
    rw [srchLoop_cons] at h1
    cases hq : srch k h (b ++ [x]) rs with
    | none => rw [hq] at h1; exact ih _ _ h1
    | some v =>
      rw [hq] at h1
      cases h1
      unfold srch at hq
      split at hq
      · split at hq
        · cases hq; assumption
        · cases hq
      · exact ih _ _ hq

/-- The first list with fewest elements, from k on, n tries. -/
def clashFrom (h : List Int → Bool) (nums : List Int) : Nat → Nat → List Int
  | 0, _ => []
  | n + 1, k => match srch k h [] nums with
    | some r => r
    | none => clashFrom h nums n (k + 1)
def numsTo (k : Nat) : List Int := (List.range k).map fun i : Nat => (i : Int)
theorem numsTo_succ (k : Nat) : numsTo (k + 1) = numsTo k ++ [(k : Int)] := by simp [numsTo, List.range_succ]
theorem numsTo_length (k : Nat) : (numsTo k).length = k := by simp [numsTo]
theorem numsTo_in (k : Nat) : ∀ x ∈ numsTo k, 0 ≤ x ∧ x < (k : Int) := by
  intro x hx
  simp only [numsTo, List.mem_map, List.mem_range] at hx
  obtain ⟨i, hi, rfl⟩ := hx
  omega
theorem chosen_all (l : List Int) : chosenS l (numsTo l.length) = l := by
  unfold chosenS numsTo
  rw [List.map_map]
  apply List.ext_getElem
  · simp
  · intro i h1 h2
    simp [rd, List.getD_eq_getElem?_getD, h2]

def step_Clash.f (a0_0 : Int) (l0_1 : List (List Int)) (a1 a2 : Int) : Option (List Int × Int) :=
  (step_Sheet_asked.f a0_0 l0_1 a1 a2).bind fun r => if r.2 = 0 then (if (1 ≤ a2 ∧ a2 ≤ 1000000) ∧ (0 ≤ a0_0 ∧ a0_0 ≤ 1000) ∧ (∀ p ∈ r.1, 0 ≤ p ∧ p ≤ 1000000) ∧ 0 < r.1.length ∧ r.1.length ≤ 1000 then
    (if allowsB a0_0 a2 r.1 = true then some ([], 8) else some (clashFrom (excl a0_0 a2 r.1) (numsTo r.1.length) r.1.length 1, 0)) else none) else some ([], r.2)


set_option maxHeartbeats 8000000 in
set_option maxRecDepth 100000 in
theorem step_Clash.calls (a0_0 : Int) (A0_1 : Option Addr) (c0_1 : Nat) (l0_1 : List (List Int)) (a1 : Int) (a2 : Int) (r1 : List Int) (r2 : Int) (w : World) (hr0_1 : Kd.C (Kd.slice 3 (Kd.int .i64)) w A0_1 l0_1.length l0_1) (hc0_1 : l0_1.length ≤ c0_1) (h : step_Clash.f a0_0 l0_1 a1 a2 = some (r1, r2)) :
    Calls Try.prog 31 #[.agg #[.int .i64 a0_0, .slice A0_1 l0_1.length c0_1], .int .i64 a1, .int .i64 a2] w fun e w' => ∃ v0_ : Value, e = .returned (.tuple #[v0_, .int .i64 r2]) ∧ Kd.R (Kd.int .i64) 3 w' w.heap.size (fun _ => True) v0_ r1 ∧ Below w.heap.size w w' := by
  have hu24 := Try.underlying24
  unfold step_Clash.f at h
  obtain ⟨⟨l, e⟩, he, h⟩ := Option.bind_eq_some_iff.1 h
  have HE := Aside0.mk he
  have HR := Aside0.mk hr0_1
  clear hr0_1 he
  dsimp only at h
  by_cases h0 : e = 0
  · subst h0
    rw [if_pos rfl] at h
    split at h
    case isFalse => cases h
    case isTrue hh =>
    obtain ⟨⟨h1, h2⟩, ⟨h3, h4⟩, hp, hl0, hl⟩ := hh
    have hal : step_Sheet_allows.f a0_0 l0_1 l a2 = some (allowsB a0_0 a2 l) := by
      unfold step_Sheet_allows.f
      exact if_pos ⟨⟨h1, h2⟩, ⟨h3, h4⟩, hp, by omega⟩
    have HP := Aside0.mk hp
    clear hp
    cases hq : allowsB a0_0 a2 l with
    | true =>
      rw [hq] at hal h
      rw [if_pos rfl] at h
      obtain ⟨rfl, rfl⟩ := Prod.mk.inj (Option.some.inj h)
      have HAl := Aside0.mk hal
      clear hal h hq
      go_enter Try.func31, Try.ntmps31
      go_wp2_with fail
      refine (step_Sheet_asked.calls a0_0 (fun k => k < w.heap.size) A0_1 c0_1 l0_1 a1 a2 l 0 _ (V_of_C HR.out hc0_1 (by repeat (first | exact Below.refl _ _ | apply below_alloc))) HE.out).mono ?_
      rintro e w1 ⟨v, rfl, hV, hb⟩
      obtain ⟨A1, c1, rfl, hc1, hFl⟩ := hV
      have k0 := pw_cell_below hb (a := ⟨w.heap.size, 0, none⟩) (v := .int .i64 a0_0) (by simp)
      have k1 := pw_cell_below hb (a := ⟨w.heap.size, 1, none⟩) (v := .slice A0_1 l0_1.length c0_1) (by simp)
      have k2 := pw_cell_below hb (a := ⟨w.heap.size + 1, 0, none⟩) (v := .int .i64 a2) (by simp)
      have hlt : w.heap.size + 1 < w1.heap.size := World.block_lt_of_cell? w1 _ k2
      have hlt0 : w.heap.size < w1.heap.size := by omega
      have HB := Aside0.mk (below_then (B := w.heap.size) (by repeat (first | exact Below.refl _ w | apply below_alloc)) (by simp; omega) hb)
      have HL := Aside0.mk (Kd.F_now hFl)
      clear hb hFl
      go_wp2_with (go_at_call 55; refine (step_Sheet_allows.calls a0_0 A0_1 c0_1 l0_1 A1 c1 l a2 true _ (Kd.C_alloc (Kd.C_below HR.out HB.out) _) hc0_1 (Kd.C_alloc HL.out _) hc1 HAl.out).mono ?_; rintro e w2 ⟨rfl, hb2⟩)
      go_ret2
      exact ⟨_, rfl, Kd.R_nil _ _ _ _ _, below_then (below_alloc HB.out _) (by simp; omega) hb2⟩
    | false =>
      rw [hq] at hal h
      rw [if_neg (by simp)] at h
      obtain ⟨h', rfl⟩ := Prod.mk.inj (Option.some.inj h)
      have HRes := Aside0.mk h'
      have hex : excl a0_0 a2 l (numsTo l.length) = true := by unfold excl; rw [chosen_all, hq]; rfl
      have HX := Aside0.mk (srchLoop_all l.length (excl a0_0 a2 l) (numsTo l.length) [] hex (by simp [numsTo_length]) (fun e => by have := congrArg List.length e; rw [numsTo_length] at this; simp only [List.length_nil] at this; omega))
      have HAl := Aside0.mk hal
      clear hal h hq h' hex
      go_enter Try.func31, Try.ntmps31
      go_wp2_with fail
      refine (step_Sheet_asked.calls a0_0 (fun k => k < w.heap.size) A0_1 c0_1 l0_1 a1 a2 l 0 _ (V_of_C HR.out hc0_1 (by repeat (first | exact Below.refl _ _ | apply below_alloc))) HE.out).mono ?_
      rintro e w1 ⟨v, rfl, hV, hb⟩
      obtain ⟨A1, c1, rfl, hc1, hFl⟩ := hV
      have k0 := pw_cell_below hb (a := ⟨w.heap.size, 0, none⟩) (v := .int .i64 a0_0) (by simp)
      have k1 := pw_cell_below hb (a := ⟨w.heap.size, 1, none⟩) (v := .slice A0_1 l0_1.length c0_1) (by simp)
      have k2 := pw_cell_below hb (a := ⟨w.heap.size + 1, 0, none⟩) (v := .int .i64 a2) (by simp)
      have hlt : w.heap.size + 1 < w1.heap.size := World.block_lt_of_cell? w1 _ k2
      have hlt0 : w.heap.size < w1.heap.size := by omega
      have hBw1 := (below_then (B := w.heap.size) (by repeat (first | exact Below.refl _ w | apply below_alloc)) (by simp; omega) hb)
      have hBK3 := (blk_below (g := w.heap.size) (o := .cells #[.int .i64 a0_0, .slice A0_1 l0_1.length c0_1] 24) (blk_alloc (blk_new w _) _) hb)
      have hBK5 := (blk_below (g := w.heap.size + 1) (o := .cells #[.int .i64 a2] 3) (blk_new2 w _ _) hb)
      have HB1 := Aside0.mk hBw1
      have HBK3 := Aside0.mk hBK3
      have HBK5 := Aside0.mk hBK5
      have HL := Aside0.mk (Kd.F_now hFl)
      clear hb hFl hBw1 hBK3 hBK5
      go_wp2_with (go_at_call 55; refine (step_Sheet_allows.calls a0_0 A0_1 c0_1 l0_1 A1 c1 l a2 false _ (Kd.C_alloc (Kd.C_below HR.out HB1.out) _) hc0_1 (Kd.C_alloc HL.out _) hc1 HAl.out).mono ?_; rintro e w2 ⟨rfl, hb2⟩; have k8 := pw_cell_below hb2 (a := ⟨w1.heap.size, 0, none⟩) (v := .slice A1 l.length c1) (by simp); have HBK8 := Aside0.mk (blk_below (blk_new w1 (.cells #[.slice A1 l.length c1] 34)) hb2); have HB2 := Aside0.mk (below_then (B := w1.heap.size) (below_alloc (Below.refl _ w1) (.cells #[.slice A1 l.length c1] 34)) (by simp) hb2); clear hb2)
      have hz2 : w1.heap.size < w2.heap.size := blk_lt HBK8.out
      go_loopg [10, 31] l.length (fun gg v10 s31 wr => ∃ kq : Nat, kq ≤ l.length ∧ l.length - kq ≤ gg ∧ s31 = .int .i64 kq ∧ Aside0 (Kd.R (Kd.int .i64) 3 wr w2.heap.size (fun _ => True) v10 (numsTo kq)) ∧ Aside0 (Below w2.heap.size w2 wr))
      case atStart => exact ⟨0, Nat.zero_le _, by omega, rfl, ⟨Kd.R_nil _ _ _ _ _⟩, ⟨Below.refl _ _⟩⟩
      case round =>
        obtain ⟨kq, hkq, hgq, rfl, HO, HBr⟩ := hrel
        by_cases hlt : kq < l.length
        · have hltz : (kq : Int) < (l.length : Int) := by omega
          have HLn := Aside0.mk (numsTo_length kq)
          have HSz := Aside0.mk HBr.out.size
          go_wp2_with ((with_reducible refine gate_builtin (b := .append) (xs := #[.tmp 34, .tmp 36]) rfl ?_); at_builtin; refine Kd.R_append (Kd.int .i64) (w0 := w2) w2.heap.size rfl (.tmp 34) (.tmp 36) 34 3 (.int .i64 0) 8 rfl Try.underlying34 info3 rfl (by decide) (by omega) u10 (numsTo kq) (kq : Int) [.int .i64 (kq : Int)] (fun _ => True) (fun _ => False) rfl rfl ?aP (fun _ hk => hk.elim) ?aF ?aO ?aB ?aS ?aL ?_; (case aP => exact rfl); (case aB => exact HBr.out); (case aF => exact (fun _ _ => trivial)); (case aO => exact HO.out); (case aS => exact HBr.out.size); (case aL => have := HLn.out; omega); intro v127 w9 ho hb hg hat; have HB9 := Aside0.mk hb; have HO9 := Aside0.mk ho; clear ho hb hg hat)
          go_roundg (l.length - (kq + 1))
          case measure => omega
          case rel => exact ⟨kq + 1, by omega, by omega, by go_num, ⟨by rw [numsTo_succ]; exact HO9.out⟩, HB9⟩
        · have hltz : ¬ (kq : Int) < (l.length : Int) := by omega
          obtain rfl : kq = l.length := by omega
          obtain ⟨An, cn, e10, hcn, hCn⟩ := Kd.R_reads HO.out
          subst e10
          rw [numsTo_length] at hcn
          have HCn := Aside0.mk hCn
          have HZ := Aside0.mk HBr.out.size
          have HNl := Aside0.mk (numsTo_length l.length)
          clear hCn k0 k1 k2 k8
          obtain ⟨wn, hwn⟩ : ∃ wn, Aside0 (wn = wr) := ⟨wr, ⟨rfl⟩⟩
          go_wp2
          go_loopg [12] l.length (fun gg s12 wx => ∃ k : Nat, 1 ≤ k ∧ k ≤ l.length ∧ l.length - k ≤ gg ∧ s12 = .int .i64 k ∧ Aside0 (Below wr.heap.size wr wx) ∧ Aside0 (clashFrom (excl a0_0 a2 l) (numsTo l.length) (l.length + 1 - k) k = r1))
          case atStart => exact ⟨1, Nat.le_refl _, by omega, by omega, rfl, ⟨Below.refl _ _⟩, ⟨by rw [Nat.add_sub_cancel]; exact HRes.out⟩⟩
          case round =>
            obtain ⟨k, hk1, hk2, hgk, rfl, HBx, HCl⟩ := hrel
            have hB2r := HBr.out.trans (HBx.out.mono HZ.out)
            have hB1r := HB2.out.trans (hB2r.mono HB2.out.size)
            have hB0r := below_then HB1.out HB1.out.size hB1r
            have b3 := blk_below HBK3.out hB1r
            have b5 := blk_below HBK5.out hB1r
            have b8 := blk_below HBK8.out hB2r
            have HH := Aside0.mk (clash1 w.heap.size w1.heap.size (w.heap.size + 1) a0_0 a2 A0_1 c0_1 l0_1 A1 c1 l wr ((blk_cell b3 0).trans rfl) ((blk_cell b3 1).trans rfl) ((blk_cell b8 0).trans rfl) ((blk_cell b5 0).trans rfl) (Kd.C_below HR.out hB0r) hc0_1 (Kd.C_below HL.out hB1r) hc1 h1 h2 h3 h4 HP.out)
            have HCr := Aside0.mk (Kd.C_below HCn.out HBx.out)
            have hcall := choose_calls 57 _ (excl a0_0 a2 l) _ (enters_of Try.func57 (by kernel_rfl) rfl) k (numsTo l.length) An cn wr HH.out HCr.out (by rw [numsTo_length]; exact hcn) (by intro x hx; exact numsTo_in _ x hx) (by rw [numsTo_length]; omega)
            have HCall := Aside0.mk hcall
            have HB0r := Aside0.mk hB0r
            have HSx := Aside0.mk HBx.out.size
            have HKw := Aside0.mk (w64 ((k : Int) + 1) (by omega) (by omega))
            clear hcall hB2r hB1r hB0r b3 b5 b8
            have hfr : ∀ n, clashFrom (excl a0_0 a2 l) (numsTo l.length) (n + 1) k = match srch k (excl a0_0 a2 l) [] (numsTo l.length) with | some r => r | none => clashFrom (excl a0_0 a2 l) (numsTo l.length) n (k + 1) := fun n => rfl
            have hfk := hfr (l.length - k)
            have hsl : l.length + 1 - k = l.length - k + 1 := by omega
            have HCl2 := Aside0.mk (show clashFrom (excl a0_0 a2 l) (numsTo l.length) (l.length - k + 1) k = r1 by rw [← hsl]; exact HCl.out)
            have HFk := Aside0.mk hfk
            clear hfr hfk hsl HCl
            cases hq : srch k (excl a0_0 a2 l) [] (numsTo l.length) with
            | some r =>
              have HQ := Aside0.mk hq
              have hr1 : r = r1 := by have := HFk.out; rw [HQ.out] at this; exact this.symm.trans HCl2.out
              subst hr1
              have hrl : r.length = k := by
                have := HQ.out
                unfold srch at this
                rw [if_neg (by simp; omega)] at this
                exact srchLoop_length _ _ _ _ _ this
              have HRL := Aside0.mk hrl
              clear hq hrl
              rw [HQ.out] at HCall
              go_wp2_with (go_at_call 56; refine HCall.out.mono ?_; rintro e w5 ⟨vf, rfl, hb5, hres⟩; obtain ⟨Ar, cr, rfl, hcr, hCr⟩ := hres r rfl; have HC5 := Aside0.mk hCr; have HB5 := Aside0.mk hb5; clear hb5 hres hCr)
              refine (clone Ar cr r w5 HC5.out hcr (by have := HRL.out; omega) (by have := HRL.out; omega)).mono ?_
              rintro e w6 ⟨v6, rfl, hR6, hB6⟩
              go_wp2
              go_ret2
              exact ⟨v6, rfl, Kd.R_lower hR6 (Nat.le_trans HB0r.out.size HB5.out.size), below_then (below_then HB0r.out HB0r.out.size HB5.out) (Nat.le_trans HB0r.out.size HB5.out.size) hB6⟩
            | none =>
              have HQ := Aside0.mk hq
              have hkl : k ≠ l.length := by
                intro e
                subst e
                have := HQ.out
                unfold srch at this
                rw [if_neg (by simp; omega)] at this
                have h2 := HX.out
                rw [this] at h2
                cases h2
              have HC3 := Aside0.mk (show clashFrom (excl a0_0 a2 l) (numsTo l.length) (l.length - k) (k + 1) = r1 by have := HFk.out; rw [HQ.out] at this; exact this.symm.trans HCl2.out)
              clear hq
              rw [HQ.out] at HCall
              go_wp2_with (go_at_call 56; refine HCall.out.mono ?_; rintro e w5 ⟨vf, rfl, hb5, hres⟩; have HB5 := Aside0.mk hb5; clear hb5 hres)
              go_roundg (l.length - (k + 1))
              case measure => omega
              case rel => exact ⟨k + 1, by omega, by omega, by omega, (by go_num), ⟨HBx.out.trans (HB5.out.mono HSx.out)⟩, ⟨by rw [show l.length + 1 - (k + 1) = l.length - k by omega]; exact HC3.out⟩⟩
  · rw [if_neg h0] at h
    obtain ⟨rfl, rfl⟩ := Prod.mk.inj (Option.some.inj h)
    have h0b : (e != 0) = true := bne_iff_ne.mpr h0
    clear h0 h
    go_enter Try.func31, Try.ntmps31
    go_wp2_with (go_at_call 48; refine (step_Sheet_asked.calls a0_0 (fun k => k < w.heap.size) A0_1 c0_1 l0_1 a1 a2 l e _ (V_of_C HR.out hc0_1 (by repeat (first | exact Below.refl _ _ | apply below_alloc))) HE.out).mono ?_; rintro e w' ⟨v, rfl, hV, hb⟩; obtain ⟨A1, c1, rfl, hc1, hFl⟩ := hV)
    go_ret2
    exact ⟨_, rfl, Kd.R_nil _ _ _ _ _, below_alloc (below_then (by repeat (first | exact Below.refl _ w | apply below_alloc)) (by simp; omega) hb) _⟩

end Go.Proofs.Ytnbcdbkhpdpjgaa.H
