/- (step.Sheet).allows: whether some first offset of an arc lies on all arcs. -/
import Derived.Test.YtnbcdbkhpdpjgaaQA8
import Derived.Test.YtnbcdbkhpdpjgaaH1
namespace Go.Proofs.Ytnbcdbkhpdpjgaa.H
open Go.RowKit Go.Proofs.YtnbcdbkhpdpjgaaW.PrintWords Go.Proofs.YtnbcdbkhpdpjgaaW.PrintLast Go.Proofs.YtnbcdbkhpdpjgaaW.PrintMore
open Go.Shelf Go.Proofs.Ytnbcdbkhpdpjgaa.QA
set_option linter.unusedVariables false
set_option linter.unusedSimpArgs false

theorem w64 (x : Int) (h0 : -9223372036854775808 ≤ x) (h1 : x ≤ 9223372036854775807) : wrap64 x = x := by unfold wrap64; omega
theorem modulo_spec (n d : Int) (hd : 0 < d) (hd1 : d ≤ 1000000000000) : step_modulo.f n d = some (n % d) := by
  unfold step_modulo.f
  rw [if_neg (by omega)]
  have h1 := Int.emod_nonneg n (show d ≠ 0 by omega)
  have h2 := Int.emod_lt_of_pos n hd
  have h3 := Int.tmod_lt_of_pos n hd
  by_cases hn : 0 ≤ n
  · rw [Int.tmod_eq_emod_of_nonneg hn, w64 _ (by omega) (by omega), Int.tmod_eq_emod_of_nonneg (by omega), Int.add_emod_right, Int.emod_emod_of_dvd _ (Int.dvd_refl d)]
  · have e : Int.tmod n d = -((-n) % d) := by
      rw [← Int.tmod_eq_emod_of_nonneg (show 0 ≤ -n by omega), Int.neg_tmod]; omega
    have h4 := Int.emod_nonneg (-n) (show d ≠ 0 by omega)
    have h5 := Int.emod_lt_of_pos (-n) hd
    rw [e, w64 _ (by omega) (by omega), Int.tmod_eq_emod_of_nonneg (by omega)]
    congr 1
    rw [Int.add_emod_right]
    have : -((-n) % d) = n + d * ((-n) / d) := by have := Int.emod_add_mul_ediv (-n) d; omega
    rw [this, Int.add_mul_emod_self_left]

def hasB (step o : Int) (b : S98) : Bool := decide ((o - b.f0) % step < b.f1)
theorem has_spec (b : S98) (o step : Int) (h1 : 1 ≤ step) (h2 : step ≤ 1000000) (h3 : -1000000000 ≤ o) (h4 : o ≤ 1000000000) (h5 : 0 ≤ b.f0) (h6 : b.f0 ≤ 1000000) : step_arc_has.f b.f0 b.f1 o step = some (hasB step o b) := by
  unfold step_arc_has.f
  rw [w64 _ (by omega) (by omega), modulo_spec _ _ (by omega) (by omega)]
  rfl

/-- The arc of a position. -/
def arcAt (off step p : Int) : S98 := ⟨if min step (2 * off + 1) = step then 0 else (p - off) % step, min step (2 * off + 1)⟩
def putArc (acc : List S98) (a : S98) : List S98 := if acc.any (fun x => a.f0 == x.f0 && (a.f1 == x.f1)) = true then acc else acc ++ [a]
def addArc (off step : Int) (acc : List S98) (p : Int) : List S98 := putArc acc (arcAt off step p)
def arcsOf (off step : Int) (l : List Int) : List S98 := l.foldl (addArc off step) []

theorem arcs_loop (off step : Int) (ls : List (List Int)) (l : List Int) (h1 : 1 ≤ step) (h2 : step ≤ 1000000) (h3 : 0 ≤ off) (h4 : off ≤ 1000) (hp : ∀ p ∈ l, 0 ≤ p ∧ p ≤ 1000000) (hl : l.length ≤ 100000) :
    ∀ (d k i : Nat) (acc : List S98), l.length - i = d → i ≤ l.length → d < k → acc.length ≤ i → step_Sheet_arcs.l0 k step acc l (l.length : Int) i off ls = some ((l.drop i).foldl (addArc off step) acc) := by
  intro d
  induction d with
  | zero =>
    intro k i acc hd hi hk ha
    obtain ⟨k, rfl⟩ : ∃ m, k = m + 1 := ⟨k - 1, by omega⟩
    simp only [step_Sheet_arcs.l0]
    rw [if_neg (by omega), List.drop_of_length_le (by omega)]
    rfl
  | succ d ih =>
    intro k i acc hd hi hk ha
    obtain ⟨k, rfl⟩ : ∃ m, k = m + 1 := ⟨k - 1, by omega⟩
    have hlt : i < l.length := by omega
    have hmem := hp l[i] (List.getElem_mem hlt)
    have hrd : rd l (i : Int) = l[i] := by unfold rd; rw [Int.toNat_natCast, List.getD_eq_getElem?_getD, List.getElem?_eq_getElem hlt]; rfl
    have hmn : mn step (wrap64 (wrap64 (2 * off) + 1)) = min step (2 * off + 1) := by
      rw [w64 (2 * off) (by omega) (by omega), w64 _ (by omega) (by omega)]; unfold mn; omega
    rw [List.drop_eq_getElem_cons hlt, List.foldl_cons]
    have ih1 := fun acc' h => ih k (i + 1) acc' (by omega) (by omega) (by omega) h
    simp only [Int.natCast_add, Int.natCast_one] at ih1
    simp only [step_Sheet_arcs.l0]
    rw [if_pos (by omega), if_pos (by omega), if_pos (by omega), hrd, w64 (l[i] - off) (by omega) (by omega), modulo_spec _ _ (by omega) (by omega), hmn, w64 ((i : Int) + 1) (by omega) (by omega)]
    simp only [Option.bind_some]
    unfold conArcsAt.f
    by_cases hm : min step (2 * off + 1) = step
    · rw [if_pos hm]
      simp only [Option.bind_some]
      cases ha1 : acc.any (fun x => 0 == x.f0 && (min step (2 * off + 1) == x.f1)) with
      | true => rw [if_pos rfl, ih1 _ (by omega)]; congr 2; simp only [addArc, putArc, arcAt, if_pos hm]; rw [if_pos ha1]
      | false => rw [if_neg (by simp), if_pos (by omega), ih1 _ (by simp; omega)]; congr 2; simp only [addArc, putArc, arcAt, if_pos hm]; rw [if_neg (by rw [ha1]; simp)]
    · rw [if_neg hm]
      simp only [Option.bind_some]
      cases ha1 : acc.any (fun x => (l[i] - off) % step == x.f0 && (min step (2 * off + 1) == x.f1)) with
      | true => rw [if_pos rfl, ih1 _ (by omega)]; congr 2; simp only [addArc, putArc, arcAt, if_neg hm]; rw [if_pos ha1]
      | false => rw [if_neg (by simp), if_pos (by omega), ih1 _ (by simp; omega)]; congr 2; simp only [addArc, putArc, arcAt, if_neg hm]; rw [if_neg (by rw [ha1]; simp)]

theorem arcs_spec (off step : Int) (ls : List (List Int)) (l : List Int) (h1 : 1 ≤ step) (h2 : step ≤ 1000000) (h3 : 0 ≤ off) (h4 : off ≤ 1000) (hp : ∀ p ∈ l, 0 ≤ p ∧ p ≤ 1000000) (hl : l.length ≤ 100000) :
    step_Sheet_arcs.f (l.length + 1) off ls l step = some (arcsOf off step l) := by
  unfold step_Sheet_arcs.f arcsOf
  have := arcs_loop off step ls l h1 h2 h3 h4 hp hl l.length (l.length + 1) 0 [] (by omega) (by omega) (by omega) (by simp)
  simpa using this

/-- Each arc begins at an offset of the step. -/
theorem arcsOf_in (off step : Int) (h1 : 1 ≤ step) : ∀ (l : List Int) (acc : List S98), (∀ b ∈ acc, 0 ≤ b.f0 ∧ b.f0 < step) → ∀ b ∈ l.foldl (addArc off step) acc, 0 ≤ b.f0 ∧ b.f0 < step := by
  intro l
  induction l with
  | nil => intro acc h; exact h
  | cons p l ih =>
    intro acc h
    rw [List.foldl_cons]
    refine ih _ ?_
    intro b hb
    unfold addArc putArc at hb
    split at hb
    · exact h b hb
    · rw [List.mem_append, List.mem_singleton] at hb
      rcases hb with hb | rfl
      · exact h b hb
      · have := Int.emod_nonneg (p - off) (show step ≠ 0 by omega)
        have := Int.emod_lt_of_pos (p - off) (show 0 < step by omega)
        unfold arcAt
        dsimp only
        split <;> omega

set_option maxHeartbeats 1000000 in
set_option maxRecDepth 100000 in
/-- (step.Sheet).allows$1$1 -/
theorem allows11 (B1 B2 : Nat) (a0 step : Int) (l : List S98) (w : World) (h0 : w.cell? ⟨B1, 0, none⟩ = some (.int .i64 a0)) (h1 : w.cell? ⟨B2, 0, none⟩ = some (.int .i64 step)) (hs : 1 ≤ step) (hs2 : step ≤ 1000000) (ha0 : 0 ≤ a0) (ha1 : a0 < step) (hl : ∀ b ∈ l, 0 ≤ b.f0 ∧ b.f0 < step) :
    Pred 71 #[.pointer (some ⟨B1, 0, none⟩), .pointer (some ⟨B2, 0, none⟩)] (fun x : S98 => Value.agg #[.int .i64 x.f0, .int .i64 x.f1]) (· ∈ l) (fun x => !hasB step a0 x) w := by
  intro W x hx hW
  have h0' := (hW.cell (World.block_lt_of_cell? w _ h0)).trans h0
  have h1' := (hW.cell (World.block_lt_of_cell? w _ h1)).trans h1
  have hlt1 : B1 < W.heap.size := World.block_lt_of_cell? W _ h0'
  have hlt2 : B2 < W.heap.size := World.block_lt_of_cell? W _ h1'
  have hxl := hl x hx
  have hc := fun W => step_arc_has.calls x.f0 x.f1 a0 step _ W (has_spec x a0 step hs hs2 (by omega) (by omega) hxl.1 (by omega))
  have HC := Aside0.mk hc
  clear hc h0 h1 hW hl hx
  have hu98 := Try.underlying98
  go_enter Try.func71, Try.ntmps71
  go_wp2_with (go_at_call 65; refine (HC.out _).mono ?_; rintro e w' ⟨rfl, hb⟩)
  go_ret
  exact ⟨rfl, below_then (by repeat (first | exact Below.refl _ _ | apply below_alloc)) (by simp) hb⟩

set_option maxHeartbeats 1000000 in
set_option maxRecDepth 100000 in
/-- (step.Sheet).allows$1 -/
theorem allows1 (B1 B2 : Nat) (A : Option Addr) (c : Nat) (l : List S98) (step : Int) (w : World) (h0 : w.cell? ⟨B1, 0, none⟩ = some (.slice A l.length c)) (h1 : w.cell? ⟨B2, 0, none⟩ = some (.int .i64 step)) (hs : 1 ≤ step) (hs2 : step ≤ 1000000) (hr : Kd.C k98 w A l.length l) (hc : l.length ≤ c) (hl : ∀ b ∈ l, 0 ≤ b.f0 ∧ b.f0 < step) :
    Pred 70 #[.pointer (some ⟨B1, 0, none⟩), .pointer (some ⟨B2, 0, none⟩)] (fun x : S98 => Value.agg #[.int .i64 x.f0, .int .i64 x.f1]) (· ∈ l) (fun x => !l.any fun b => !hasB step x.f0 b) w := by
  intro W x hx hW
  have h0' := (hW.cell (World.block_lt_of_cell? w _ h0)).trans h0
  have h1' := (hW.cell (World.block_lt_of_cell? w _ h1)).trans h1
  have hlt1 : B1 < W.heap.size := World.block_lt_of_cell? W _ h0'
  have hlt2 : B2 < W.heap.size := World.block_lt_of_cell? W _ h1'
  have hxl := hl x hx
  have hr' := Kd.C_below hr (hW.mono (Nat.le_refl _))
  have HR := Aside0.mk hr'
  have HL := Aside0.mk hl
  clear h0 h1 hW hl hx hr hr'
  have hu98 := Try.underlying98
  go_enter Try.func70, Try.ntmps70
  go_wp2_with (go_at_call 66; refine (conArcs 71 #[.pointer (some ⟨W.heap.size, 0, none⟩), .pointer (some ⟨B2, 0, none⟩)] _ (enters_of Try.func71 (by kernel_rfl) rfl) A c l _ (allows11 W.heap.size B2 x.f0 step l _ (by simp) (by simp [World.cell?_alloc_past, hlt2, h1']) hs hs2 hxl.1 hxl.2 HL.out) (Kd.C_alloc HR.out _) hc).mono ?_; rintro e w' ⟨rfl, hb⟩)
  go_ret
  exact ⟨rfl, below_then (by repeat (first | exact Below.refl _ _ | apply below_alloc)) (by simp) hb⟩

def allowsB (off step : Int) (l : List Int) : Bool := (arcsOf off step l).any fun a => !(arcsOf off step l).any fun b => !hasB step a.f0 b
def step_Sheet_allows.f (a0_0 : Int) (_l0_1 : List (List Int)) (l1 : List Int) (a2 : Int) : Option Bool :=
  if (1 ≤ a2 ∧ a2 ≤ 1000000) ∧ (0 ≤ a0_0 ∧ a0_0 ≤ 1000) ∧ (∀ p ∈ l1, 0 ≤ p ∧ p ≤ 1000000) ∧ l1.length ≤ 100000 then some (allowsB a0_0 a2 l1) else none

set_option maxHeartbeats 2000000 in
set_option maxRecDepth 100000 in
theorem step_Sheet_allows.calls (a0_0 : Int) (A0_1 : Option Addr) (c0_1 : Nat) (l0_1 : List (List Int)) (A1 : Option Addr) (c1 : Nat) (l1 : List Int) (a2 : Int) (r : Bool) (w : World) (hr0_1 : Kd.C (Kd.slice 3 (Kd.int .i64)) w A0_1 l0_1.length l0_1) (hc0_1 : l0_1.length ≤ c0_1) (hr1 : Kd.C (Kd.int .i64) w A1 l1.length l1) (hc1 : l1.length ≤ c1) (h : step_Sheet_allows.f a0_0 l0_1 l1 a2 = some r) :
    Calls Try.prog 55 #[.agg #[.int .i64 a0_0, .slice A0_1 l0_1.length c0_1], .slice A1 l1.length c1, .int .i64 a2] w fun e w' => e = .returned (.bool r) ∧ Below w.heap.size w w' := by
  unfold step_Sheet_allows.f at h
  split at h
  case isFalse => cases h
  case isTrue hh =>
  obtain rfl := Option.some.inj h
  obtain ⟨⟨h1, h2⟩, ⟨h3, h4⟩, hp, hl⟩ := hh
  have hin := arcsOf_in a0_0 a2 h1 l1 [] (by simp)
  have hlet : allowsB a0_0 a2 l1 = ((arcsOf a0_0 a2 l1).any fun a => !(arcsOf a0_0 a2 l1).any fun b => !hasB a2 a.f0 b) := rfl
  have HF := Aside0.mk (arcs_spec a0_0 a2 l0_1 l1 h1 h2 h3 h4 hp hl)
  have hin' : ∀ b ∈ arcsOf a0_0 a2 l1, 0 ≤ b.f0 ∧ b.f0 < a2 := hin
  clear hin h
  generalize arcsOf a0_0 a2 l1 = arcs at hlet HF hin'
  rw [hlet]
  clear hlet hp hl h3 h4
  have HR0 := Aside0.mk hr0_1
  have HR1 := Aside0.mk hr1
  have HI := Aside0.mk hin'
  clear hr0_1 hr1 hin'
  have hu24 := Try.underlying24
  go_enter Try.func55, Try.ntmps55
  go_wp2_with fail
  refine (step_Sheet_arcs.calls _ a0_0 A0_1 c0_1 l0_1 A1 c1 l1 a2 arcs _ (Kd.C_alloc (Kd.C_alloc HR0.out _) _) hc0_1 (Kd.C_alloc (Kd.C_alloc HR1.out _) _) hc1 HF.out).mono ?_
  rintro e w1 ⟨v, rfl, hR, hb⟩
  obtain ⟨A, c, rfl, hc, hC⟩ := Kd.R_reads hR
  have hstep : w1.cell? ⟨w.heap.size + 1, 0, none⟩ = some (.int .i64 a2) := pw_cell_below hb (by simp)
  have hlt : w.heap.size + 1 < w1.heap.size := World.block_lt_of_cell? w1 _ hstep
  have HC := Aside0.mk hC
  clear hR hC
  have HB := Aside0.mk (below_then (B := w.heap.size) (by repeat (first | exact Below.refl _ w | apply below_alloc)) (by simp; omega) hb)
  clear hb
  go_wp2_with (go_at_call 66; refine (conArcs 70 #[.pointer (some ⟨w1.heap.size, 0, none⟩), .pointer (some ⟨w.heap.size + 1, 0, none⟩)] _ (enters_of Try.func70 (by kernel_rfl) rfl) A c arcs _ (allows1 w1.heap.size (w.heap.size + 1) A c arcs a2 _ (by simp) (by simp [World.cell?_alloc_past, hlt, hstep]) h1 h2 (Kd.C_alloc HC.out _) hc HI.out) (Kd.C_alloc HC.out _) hc).mono ?_; rintro e w' ⟨rfl, hb⟩)
  go_ret
  exact ⟨rfl, below_then (HB.out.alloc HB.out.size _) (by have := HB.out.size; simp; omega) hb⟩

end Go.Proofs.Ytnbcdbkhpdpjgaa.H
