/- Texts HA, HB, HC of this chapter, one behind the other. -/
import Derived.Carry
import Derived.Test.YthddeillkdediaaXA
import Derived.Test.YthddeillkdediaaXD

/- hand.count, of signed sums. -/
namespace Go.Proofs.Ythddeillkdediaa.H
open Go.RowKit Go.Proofs.YthddeillkdediaaW.PrintWords Go.Proofs.YthddeillkdediaaW.PrintLast Go.Proofs.YthddeillkdediaaW.PrintMore
open Go.Shelf Go.Proofs.Ythddeillkdediaa.QA
set_option linter.unusedVariables false
set_option linter.unusedSimpArgs false

set_option maxHeartbeats 4000000 in
set_option maxRecDepth 100000 in
/-- hand.count, of signed sums. -/
theorem countS_calls (Ar : Option Addr) (cr : Nat) (rs : List Int) (w : World) (hr : Kd.C (Kd.int .i64) w Ar rs.length rs) (hc : rs.length ≤ cr) (hl : rs.length ≤ 32) (hrs : ∀ r ∈ rs, 0 ≤ r ∧ r ≤ 1000) :
  Calls Try.prog 59 #[.int .i64 0, .slice Ar rs.length cr, .func (.func 60) #[] #[]] w fun e w' => ∃ b n, e = .returned (.map (some b)) ∧ MapF (kS rs.length) w' b n (wS rs) ∧ n ≤ 4294967296 ∧ w.heap.size ≤ b ∧ Below w.heap.size w w' := by
 have hM : maxLen = 9223372036854775807 := rfl
 have hmm := @run_makeMap Try.prog
 obtain ⟨w1, hrun, hM1, hg1⟩ := (MapF.made (X := kS 0) w).put und80 (by omega) (k := 0) ⟨by simp, by omega⟩ 1
 have hbelow : Below w.heap.size w w1 := (below_alloc (Below.refl w.heap.size w) (.map #[] 0)).grown hg1 (by simp) (fun k e => by cases e; simp)
 have hbe : (kS 0).enc 0 = .int .i64 0 := rfl
 rw [hbe] at hrun
 have HM1 := Aside0.mk (hM1.congr (g := wS (rs.take 0)) (fun k _ => by unfold upd wS startS; simp))
 have HB1 := Aside0.mk hbelow
 have HR := Aside0.mk hr
 have HRS := Aside0.mk hrs
 have HWS := Aside0.mk (wS_ws rs hrs)
 clear hM1 hbelow hg1 hr hrs
 go_enter Try.func59, Try.ntmps59
 go_wp2
 clear hrun
 go_loopw [7, 20] (fun s7 s20 wr => ∃ (i b n : Nat), s7 = .map (some b) ∧ s20 = .int .i64 i ∧ Aside0 (i ≤ rs.length ∧ n ≤ 2 ^ i) ∧ Aside0 (MapF (kS i) wr b n (wS (rs.take i))) ∧ Aside0 (w.heap.size ≤ b) ∧ Aside0 (Below w.heap.size w wr)) (fun _ s20 _ => rs.length - (intOf s20).toNat)
 case atStart => exact ⟨0, _, _, rfl, rfl, ⟨by simp⟩, HM1, ⟨by simp⟩, HB1⟩
 case round =>
  clear HM1 HB1
  obtain ⟨i, b, n, rfl, rfl, HI, HMP, HBB, HB⟩ := hrel
  rename World => wr
  by_cases hlt : i < rs.length
  · have hd1 : decide ((i : Int) < (rs.length : Int)) = true := decide_eq_true (by omega)
    have p1 : (0 : Int) ≤ (i : Int) := by omega
    have q1 : (i : Int) < (rs.length : Int) := by omega
    obtain ⟨ad, had, x0⟩ := Kd.at_int (Kd.C_below HR.out HB.out) (i : Int) p1 q1
    cases had
    rw [Int.toNat_natCast] at x0
    have HRR := Aside0.mk (HRS.out _ (rd_mem rs hlt))
    have HSU := Aside0.mk (show wS (rs.take (i + 1)) = stepS (rd rs i) (wS (rs.take i)) by rw [take_rd rs hlt, wS_snoc])
    have HW := Aside0.mk (HWS.out i (by omega))
    have HI1 := Aside0.mk (show wrap64 ((i : Int) + 1) = ((i + 1 : Nat) : Int) by rw [w64' _ (by omega) (by omega)]; rfl)
    have HIL := Aside0.mk (show i + 1 ≤ rs.length ∧ i + 1 ≤ 40 ∧ i ≤ 40 by omega)
    generalize rd rs (i : Int) = r at x0 HRR HSU
    generalize wS (rs.take i) = f at HMP HSU HW
    have HPW := Aside0.mk (show (2 ^ i : Nat) ≤ 4294967296 from Nat.le_trans (Nat.pow_le_pow_right (by omega) (show i ≤ 32 by omega)) (by decide))
    have hmk := MapF.made (X := kS (i + 1)) wr
    have hMw := HMP.out.below (below_alloc (Below.refl wr.heap.size wr) (.map #[] 0))
    clear hlt
    go_wp2_with (at_range; refine wpList_rangeF (X := kS i) rfl _ 80 rfl und80 b n f rfl hMw ?_; intro wi L cnt hrg hL hcnt hgw hsz)
    go_frame
    have HG0 := Aside0.mk (show MapF (kS (i + 1)) wi wr.heap.size 0 (fun _ => 0) from hmk.kept hgw (by simp))
    have HRG := Aside0.mk hrg
    have HGO := Aside0.mk (gS_start (r := r) HW.out HIL.out.2.2 hL)
    have HCN := Aside0.mk hcnt
    have hbw : Below w.heap.size w wi := (below_alloc HB.out (.map #[] 0)).grown hgw (by simp; have := HB.out.size; omega) (fun k e => by cases e)
    have HBW := Aside0.mk hbw
    have HNE := Aside0.mk (show wr.heap.size ≠ b by have := HMP.out.lt; omega)
    have HWR := Aside0.mk (show w.heap.size ≤ wr.heap.size from HB.out.size)
    clear hmk hMw hrg hL hcnt hgw hsz hbw
    rw [World.size_alloc] at HRG ⊢
    obtain ⟨b2, hb2⟩ : ∃ b2, b2 = wr.heap.size := ⟨_, rfl⟩
    rw [← hb2] at HG0 HRG HNE HWR ⊢
    clear hb2
    go_loopw [11] (fun _ wr => ∃ (L : Int → Bool) (cnt n2 : Nat) (g : Int → Int), Aside0 (RangeF (kS i) wr b (b2 + 1) f L cnt) ∧ Aside0 (MapF (kS (i + 1)) wr b2 n2 g) ∧ Aside0 (n2 + 2 * cnt ≤ 2 * n) ∧ Aside0 (gS i r L f g) ∧ Aside0 (Below w.heap.size w wr)) (fun _ wr => wr.rangeLeft b (b2 + 1))
    case atStart => exact ⟨L, cnt, 0, _, HRG, HG0, ⟨by have := HCN.out; omega⟩, HGO, HBW⟩
    case round =>
     clear HRG HG0 HCN HGO HBW
     obtain ⟨L, cnt, n2, g, HRG, HG, HN2, HGO, HBW⟩ := hrel
     rename World => wj
     go_wp2_with (at_next; refine wpList_nextF (X := kS i) rfl _ rfl b (b2 + 1) cnt f L rfl HRG.out ?_ ?_)
     · intro hL
       have HGE := Aside0.mk (HG.out.congr (gS_end HW.out HIL.out.2.2 HGO.out hL))
       clear hL
       go_wp2
       refine ⟨⟨i + 1, b2, n2, rfl, rfl, ⟨HIL.out.1, by have := HN2.out; have := HI.out.2; rw [Nat.pow_succ]; omega⟩, ⟨by rw [HSU.out]; exact HGE.out⟩, ⟨HWR.out⟩, HBW⟩, ?_⟩
       show rs.length - ((i : Int) + 1).toNat < rs.length - ((i : Int)).toNat
       have := HIL.out.1
       omega
     · intro x w5 cnt5 hx hLx hrg5 hlt5 hg5 hs5 hen
       have hbx : (kS i).enc x = .int .i64 x := rfl
       rw [hbx] at hen ⊢
       have HX := Aside0.mk hx
       have HG5 := Aside0.mk (HG.out.kept hg5 (by simp))
       have HLQ := Aside0.mk HRG.out.left_eq
       have HGV := Aside0.mk (fun e he => gS_bound HW.out HIL.out.2.2 HGO.out e he)
       have HR5 := Aside0.mk hrg5
       have HB5 := Aside0.mk (HBW.out.grown hg5 (by have := HBW.out.size; omega) (fun k e => by cases e; have := HWR.out; omega))
       have HS5 := Aside0.mk (gS_step HGO.out x hLx)
       have HL5 := Aside0.mk hlt5
       have HC5 := Aside0.mk (And.intro (HW.out.pos x) (HW.out.le x))
       have hus := usesS_ok hx HIL.out.2.1 HRR.out
       have HUS := Aside0.mk hus
       clear hx hLx hrg5 hlt5 hg5 hs5 hbx HG HRG HGO HBW hus
       generalize f x = cc at hen HC5 HS5
       generalize (fun k => L k && !decide (k = x)) = L' at HR5 HS5
       go_wp2_with fail
       refine (usesS_calls x r _ (by have := HX.out.1; have := HIL.out; omega) HRR.out).mono ?_
       rintro e w6 ⟨gB, rfl, hgb, hgl, hb6⟩
       have hW6 := hb6
       have hgb' : w6.heap[gB]? = some (.cells ((usesS x r).map (Value.int .i64)).toArray 3 (0, 0)) := hgb
       have hlen2 : (usesS x r).length = 2 := rfl
       have HG6 := Aside0.mk (HG5.out.below hW6)
       have HR6 := Aside0.mk (HR5.out.kept (grown_of_below hW6 none) (by simp) (by simp))
       have HB6 := Aside0.mk (HB5.out.trans (hW6.mono HB5.out.size))
       have HGB := Aside0.mk hgb'
       have HU2 := Aside0.mk hlen2
       clear hgb hgb' hlen2 hgl hb6 hW6 HG5 HR5 HB5
       generalize usesS x r = us at HUS HS5 HGB HU2
       go_wp2
       go_loopw [37] (fun s37 wr => ∃ (j n3 : Nat), s37 = .int .i64 j ∧ Aside0 (j ≤ 2 ∧ n3 ≤ n2 + j) ∧ Aside0 (RangeF (kS i) wr b (b2 + 1) f L' cnt5) ∧ Aside0 (MapF (kS (i + 1)) wr b2 n3 (putsS cc (us.take j) g)) ∧ Aside0 (wr.heap[gB]? = some (.cells (us.map (Value.int .i64)).toArray 3 (0, 0))) ∧ Aside0 (Below w.heap.size w wr)) (fun s37 _ => 2 - (intOf s37).toNat)
       case atStart => exact ⟨0, n2, rfl, ⟨by omega⟩, HR6, HG6, HGB, HB6⟩
       case round =>
        clear HR6 HG6 HGB HB6
        obtain ⟨j, n3, rfl, HJ, HR6, HG6, HGB, HB6⟩ := hrel
        rename World => wr
        by_cases hlj : j < 2
        · have hdj : decide ((j : Int) < 2) = true := decide_eq_true (by omega)
          have hlj2 : j < us.length := by rw [HU2.out]; exact hlj
          have pj : (0 : Int) ≤ (j : Int) := by omega
          have hcs1 : (us.map (Value.int .i64)).toArray[j]? = some (.int .i64 us[j]) := by rw [List.getElem?_toArray, List.getElem?_map, List.getElem?_eq_getElem hlj2]; rfl
          have x1c : wr.cell? ⟨gB, j, none⟩ = some (.int .i64 us[j]) := (blk_cell HGB.out j).trans hcs1
          have HOK := Aside0.mk (HUS.out _ (List.getElem_mem hlj2))
          have HPU := Aside0.mk (show putsS cc (us.take (j + 1)) g = upd (putsS cc (us.take j) g) us[j] (putsS cc (us.take j) g us[j] + cc) by rw [take_get us hlj2, putsS_snoc])
          have HJ1 := Aside0.mk (show wrap64 ((j : Int) + 1) = ((j + 1 : Nat) : Int) by rw [w64' _ (by omega) (by omega)]; rfl)
          have HJL := Aside0.mk hlj
          clear hcs1
          generalize us[j] = e at x1c HOK HPU
          clear hlj2
          have hlk := HG6.out.look und80 HOK.out
          obtain ⟨gv, hgv⟩ : ∃ gv, putsS cc (us.take j) g e = gv := ⟨_, rfl⟩
          obtain ⟨w3e, hes, hM3, hg3e⟩ := HG6.out.put und80 (by have := HJ.out.2; have := HN2.out; have := HI.out.2; have := HPW.out; have := HJ.out.1; omega) HOK.out (gv + cc)
          have hbe2 : (kS (i + 1)).enc e = .int .i64 e := rfl
          rw [hbe2] at hes hlk
          rw [hgv] at hlk HPU
          have e45 : wrap64 (gv + cc) = gv + cc := by
           have b1 := HGV.out e HOK.out
           have b2 := HC5.out
           have b3 := putsS_bound cc b2.1 (us.take j) g e
           rw [hgv, List.length_take] at b3
           have b4 := HPW.out
           have b5 := HU2.out
           have b6 : ((min j us.length : Nat) : Int) * cc ≤ 2 * cc := Int.mul_le_mul_of_nonneg_right (by omega) b2.1
           exact w64' _ (by omega) (by omega)
          have HM3 := Aside0.mk hM3
          have HR9 := Aside0.mk (HR6.out.kept hg3e (fun h => HNE.out (by cases h; rfl)) (by simp))
          have HB9 := Aside0.mk (HB6.out.grown hg3e HB6.out.size (fun k h => by cases h; exact HWR.out))
          have hgne : gB ≠ b2 := fun h => by
           obtain ⟨D, _, es, clock, hb, _⟩ := HG6.out
           rw [← h, HGB.out] at hb
           cases hb
          have HGB9 := Aside0.mk ((hg3e.block _ (blk_lt2 HGB.out) (fun h => hgne (by cases h; rfl))).trans HGB.out)
          clear hgv hM3 hg3e hgne hbe2
          clear HR6 HG6 HGB HB6
          go_wp2
          refine ⟨⟨j + 1, n3 + 1, by first | rfl | exact congrArg _ HJ1.out, ⟨by have := HJ.out; have := HJL.out; omega⟩, HR9, ⟨by rw [HPU.out]; exact HM3.out⟩, HGB9, HB9⟩, ?_⟩
          have := HJL.out
          first | (rw [HJ1.out]; show 2 - (((j + 1 : Nat) : Int)).toNat < 2 - ((j : Int)).toNat; omega) | (show 2 - ((j : Int) + 1).toNat < 2 - ((j : Int)).toNat; omega)
        · have hdj : decide ((j : Int) < 2) = false := decide_eq_false (by omega)
          obtain rfl : j = 2 := by have := HJ.out; omega
          have hg7 := HG6.out
          rw [List.take_of_length_le (by rw [HU2.out]; exact Nat.le_refl 2)] at hg7
          have HG7 := Aside0.mk hg7
          clear hg7
          go_wp2
          refine ⟨⟨L', cnt5, n3, _, HR6, HG7, ⟨by have := HJ.out; have := HN2.out; have := HL5.out; omega⟩, HS5, HB6⟩, ?_⟩
          rw [HR6.out.left_eq, HLQ.out]
          exact HL5.out
  · have hd1 : decide ((i : Int) < (rs.length : Int)) = false := decide_eq_false (by omega)
    obtain rfl : i = rs.length := by have := HI.out; omega
    go_wp2
    go_ret
    have := HMP.out
    rw [List.take_length] at this
    exact ⟨b, n, rfl, this, Nat.le_trans HI.out.2 (Nat.le_trans (Nat.pow_le_pow_right (by omega) hl) (by decide)), HBB.out, HB.out⟩

end Go.Proofs.Ythddeillkdediaa.H

/- hand.part. -/
namespace Go.Proofs.Ythddeillkdediaa.H
open Go.RowKit Go.Proofs.YthddeillkdediaaW.PrintWords Go.Proofs.YthddeillkdediaaW.PrintLast Go.Proofs.YthddeillkdediaaW.PrintMore
open Go.Shelf Go.Proofs.Ythddeillkdediaa.QA
set_option linter.unusedVariables false
set_option linter.unusedSimpArgs false

theorem sum_hit (U : List Int) (hn : U.Nodup) (d : Int → Int) (x c : Int) : sumI (U.map fun k => d k + (if k = x then c else 0)) = sumI (U.map d) + (if x ∈ U then c else 0) := by
 induction U with
 | nil => simp [sumI]
 | cons u U ih =>
  have hn' := List.nodup_cons.1 hn
  simp only [List.map_cons, sumI]
  rw [ih hn'.2]
  by_cases h : u = x
  · subst h
    rw [if_pos rfl, if_neg hn'.1, if_pos (by simp)]
    omega
  · rw [if_neg h]
    by_cases h2 : x ∈ U
    · rw [if_pos h2, if_pos (by simp [h2])]; omega
    · rw [if_neg h2, if_neg (by simp [h2]; exact fun e => h e.symm)]; omega
/-- The sum over the entries that have been met. -/
def metI (U : List Int) (L : Int → Bool) (f : Int → Int) : Int := sumI (U.map (doneS L f))
theorem metI_step {U : List Int} (hn : U.Nodup) {L : Int → Bool} {f : Int → Int} (x : Int) (hx : L x = true) (hs : f x ≠ 0 → x ∈ U) : metI U (fun k => L k && !decide (k = x)) f = metI U L f + f x := by
 unfold metI
 rw [show (doneS (fun k => L k && !decide (k = x)) f) = fun k => doneS L f k + (if k = x then f x else 0) from funext fun k => doneS_step L f x k hx, sum_hit U hn]
 by_cases h : x ∈ U
 · rw [if_pos h]
 · rw [if_neg h]
   have : f x = 0 := by
    by_cases h0 : f x = 0
    · exact h0
    · exact absurd (hs h0) h
   omega
theorem metI_none {U : List Int} {L : Int → Bool} {f : Int → Int} (h : ∀ k ∈ U, L k = false → f k = 0) : metI U L f = 0 := by
 unfold metI
 rw [sumI_congr U _ (fun _ => (0 : Int)) (fun k hk => by
  unfold doneS
  cases hq : L k with
  | true => rfl
  | false => rw [h k hk hq]; rfl), sumI_const]
 omega
theorem metI_all {U : List Int} {L : Int → Bool} {f : Int → Int} (h : ∀ k ∈ U, f k ≠ 0 → L k = false) : metI U L f = sumI (U.map f) := by
 unfold metI
 refine sumI_congr U _ _ fun k hk => ?_
 unfold doneS
 by_cases h0 : f k = 0
 · rw [h0]; split <;> rfl
 · rw [h k hk h0]; rfl
theorem metI_le {U : List Int} (L : Int → Bool) {f : Int → Int} (h : ∀ k, 0 ≤ f k) : 0 ≤ metI U L f ∧ metI U L f ≤ sumI (U.map f) := by
 unfold metI
 induction U with
 | nil => simp [sumI]
 | cons u U ih =>
  simp only [List.map_cons, sumI]
  have := h u
  have h2 : 0 ≤ doneS L f u ∧ doneS L f u ≤ f u := by unfold doneS; split <;> omega
  omega
def keep (p : Int → Bool) (f : Int → Int) : Int → Int := fun k => if p k = true then f k else 0
theorem keep_le {U : List Int} (p : Int → Bool) {f : Int → Int} (h : ∀ k, 0 ≤ f k) : 0 ≤ sumI (U.map (keep p f)) ∧ sumI (U.map (keep p f)) ≤ sumI (U.map f) := by
 induction U with
 | nil => simp [sumI]
 | cons u U ih =>
  simp only [List.map_cons, sumI]
  have := h u
  have h2 : 0 ≤ keep p f u ∧ keep p f u ≤ f u := by unfold keep; split <;> omega
  omega
set_option maxHeartbeats 4000000 in
set_option maxRecDepth 100000 in
/-- hand.part -/
theorem part_calls (X : KeyX Int) (hXt : X.t = 3) (hXe : ∀ k, X.enc k = .int .i64 k) (b n : Nat) (f : Int → Int) (p : Int → Bool) (g : Nat) (lb : Array Value) (eg : ∀ args w, (callFunc g args).run Try.prog w = .ok (.enter g args) w) (U : List Int) (w : World)
  (hM : MapF X w b n f) (hn : U.Nodup) (hs : ∀ k, f k ≠ 0 → k ∈ U) (hok : ∀ k, f k ≠ 0 → X.ok k) (hf : ∀ k, 0 ≤ f k) (hT : sumI (U.map f) ≤ 4611686018427387904) (hp : Pred g lb (Value.int .i64) X.ok p w) :
  Calls Try.prog 50 #[.map (some b), .func (.func g) #[] lb] w fun e w' => e = .returned (.tuple #[.int .i64 (sumI (U.map (keep p f))), .int .i64 (sumI (U.map f))]) ∧ Below w.heap.size w w' := by
 have hund : Try.prog.underlying 80 = some (.map X.t 3) := by rw [hXt]; exact und80
 have HN := Aside0.mk hn
 have HS := Aside0.mk hs
 have HOK := Aside0.mk hok
 have HF := Aside0.mk hf
 have HT := Aside0.mk hT
 have HP := Aside0.mk hp
 clear hn hs hok hf hT hp
 go_enter Try.func50, Try.ntmps50
 go_wp2_with (at_range; refine wpList_rangeF (X := X) rfl _ 80 rfl hund b n f rfl hM ?_; intro wi L cnt hrg hL hcnt hgw hsz)
 go_frame
 have HRG := Aside0.mk hrg
 have HB := Aside0.mk (show Below w.heap.size w wi from (Below.refl w.heap.size w).grown hgw (Nat.le_refl _) (fun k e => by cases e))
 have HM1 := Aside0.mk (metI_none (U := U) (L := L) (f := f) (fun k hk h => by
  by_cases h0 : f k = 0
  · exact h0
  · exact hL k (HOK.out k h0) h))
 have HM2 := Aside0.mk (metI_none (U := U) (L := L) (f := keep p f) (fun k hk h => by
  unfold keep
  split
  · by_cases h0 : f k = 0
    · exact h0
    · exact hL k (HOK.out k h0) h
  · rfl))
 have HLB := Aside0.mk hM.lt
 clear hrg hL hcnt hgw hsz hM
 go_loopw [4, 5] (fun s4 s5 wr => ∃ (L : Int → Bool) (cnt : Nat), s4 = .int .i64 (metI U L (keep p f)) ∧ s5 = .int .i64 (metI U L f) ∧ Aside0 (RangeF X wr b w.heap.size f L cnt) ∧ Aside0 (Below w.heap.size w wr)) (fun _ _ wr => wr.rangeLeft b w.heap.size)
 case atStart => exact ⟨L, cnt, by rw [HM2.out], by rw [HM1.out], HRG, HB⟩
 case round =>
  clear HM1 HM2 HRG HB
  obtain ⟨L, cnt, rfl, rfl, HRG, HB⟩ := hrel
  rename World => wj
  go_wp2_with (at_next; refine wpList_nextF (X := X) rfl _ rfl b w.heap.size cnt f L rfl HRG.out ?_ ?_)
  · intro hL
    have HE1 := Aside0.mk (metI_all (U := U) (L := L) (f := f) (fun k _ h0 => hL k (HOK.out k h0)))
    have HE2 := Aside0.mk (metI_all (U := U) (L := L) (f := keep p f) (fun k _ h0 => hL k (HOK.out k (fun e => h0 (by unfold keep; rw [e]; split <;> rfl)))))
    clear hL
    rw [HE1.out, HE2.out]
    go_wp2
    go_ret2
    exact ⟨rfl, HB.out⟩
  · intro x w5 cnt5 hx hLx hrg5 hlt5 hg5 hs5 hen
    try rw [hXe x] at hen
    have HB5 := Aside0.mk (show Below w.heap.size w w5 from HB.out.grown hg5 HB.out.size (fun k e => by cases e; exact Nat.le_refl _))
    have hcall := HP.out w5 x hx HB5.out
    have HS1 := Aside0.mk (metI_step HN.out (f := f) x hLx (HS.out x))
    have HS2 := Aside0.mk (metI_step HN.out (f := keep p f) x hLx (fun h => HS.out x (fun e => h (by unfold keep; rw [e]; split <;> rfl))))
    have HK := Aside0.mk (show keep p f x = if p x = true then f x else 0 from rfl)
    have HLQ := Aside0.mk HRG.out.left_eq
    have HR5 := Aside0.mk hrg5
    have HL5 := Aside0.mk hlt5
    have HW1 := Aside0.mk (show wrap64 (metI U L f + f x) = metI U L f + f x by
     rw [← HS1.out]
     have := metI_le (U := U) (fun k => L k && !decide (k = x)) (f := f) HF.out
     have := HT.out
     exact w64' _ (by omega) (by omega))
    have HW2 := Aside0.mk (show wrap64 (metI U L (keep p f) + keep p f x) = metI U L (keep p f) + keep p f x by
     rw [← HS2.out]
     have := metI_le (U := U) (fun k => L k && !decide (k = x)) (f := keep p f) (fun k => by unfold keep; split; exact HF.out k; exact Int.le_refl 0)
     have := keep_le (U := U) p HF.out
     have := HT.out
     exact w64' _ (by omega) (by omega))
    clear hx hLx hrg5 hlt5 hg5 hs5
    have hw1 := HW1.out
    rw [HK.out] at HS2 HW2
    generalize (fun k => L k && !decide (k = x)) = L' at HS1 HS2 HR5
    generalize f x = c at hen HS1 HS2 HW2 HW1 hw1
    cases hq : p x with
    | true =>
     rw [hq] at hcall HS2 HW2
     simp only [if_true] at HS2 HW2
     have hw2 := HW2.out
     go_wp2_with (go_at_fn g; refine hcall.mono ?_; rintro e w6 ⟨rfl, hb6⟩)
     have hr6 := HR5.out.kept (grown_of_below hb6 none) (by simp) (by simp)
     refine ⟨⟨L', cnt5, ?_, ?_, ⟨hr6⟩, ⟨HB5.out.trans (hb6.mono HB5.out.size)⟩⟩, ?_⟩
     · rw [HS2.out]
       first | done | exact congrArg _ HW2.out
     · rw [HS1.out]
       first | done | exact congrArg _ HW1.out
     · rw [hr6.left_eq, HLQ.out]
       exact HL5.out
    | false =>
     rw [hq] at hcall HS2 HW2
     simp only [Bool.false_eq_true, if_false, Int.add_zero] at HS2 HW2
     go_wp2_with (go_at_fn g; refine hcall.mono ?_; rintro e w6 ⟨rfl, hb6⟩)
     have hr6 := HR5.out.kept (grown_of_below hb6 none) (by simp) (by simp)
     refine ⟨⟨L', cnt5, ?_, ?_, ⟨hr6⟩, ⟨HB5.out.trans (hb6.mono HB5.out.size)⟩⟩, ?_⟩
     · rw [HS2.out]
       first | done | exact congrArg _ HW2.out
     · rw [HS1.out]
       first | done | exact congrArg _ HW1.out
     · rw [hr6.left_eq, HLQ.out]
       exact HL5.out

end Go.Proofs.Ythddeillkdediaa.H

/- hand.choices. -/
namespace Go.Proofs.Ythddeillkdediaa.H
open Go.RowKit Go.Proofs.YthddeillkdediaaW.PrintWords Go.Proofs.YthddeillkdediaaW.PrintLast Go.Proofs.YthddeillkdediaaW.PrintMore
open Go.Shelf Go.Proofs.Ythddeillkdediaa.QA
set_option linter.unusedVariables false
set_option linter.unusedSimpArgs false

theorem mul_in {x y p q : Int} (hx : 0 ≤ x ∧ x ≤ p) (hy : 0 ≤ y ∧ y ≤ q) : 0 ≤ x * y ∧ x * y ≤ p * q :=
 ⟨Int.mul_nonneg hx.1 hy.1, Int.mul_le_mul hx.2 hy.2 hy.1 (Int.le_trans hx.1 hx.2)⟩
/-- What is in the ranks besides the beats. -/
def restI (a b : List Int) : Int := (a.length : Int) * ((a.length : Int) + 1) + 2 * (a.length : Int) * (b.length : Int)
/-- How many choices have some number of beats. -/
def chF (a b : List Int) (x : Int) : Int := wT a.length (ranksI (a ++ b)) ((a.length : Int), restI a b - x)
theorem rest_wraps (n m : Int) (hn : 0 ≤ n ∧ n ≤ 16) (hm : 0 ≤ m ∧ m ≤ 16) : wrap64 (n + 1) = n + 1 ∧ wrap64 (n * (n + 1)) = n * (n + 1) ∧ wrap64 (2 * n) = 2 * n ∧ wrap64 (2 * n * m) = 2 * n * m ∧ wrap64 (n * (n + 1) + 2 * n * m) = n * (n + 1) + 2 * n * m := by
 have m1 := mul_in (x := n) (y := n + 1) (p := 16) (q := 17) hn ⟨by omega, by omega⟩
 have m2 := mul_in (x := 2 * n) (y := m) (p := 32) (q := 16) ⟨by omega, by omega⟩ hm
 generalize n * (n + 1) = u at m1 ⊢
 generalize 2 * n * m = v at m2 ⊢
 exact ⟨w64' _ (by omega) (by omega), w64' _ (by omega) (by omega), w64' _ (by omega) (by omega), w64' _ (by omega) (by omega), w64' _ (by omega) (by omega)⟩
theorem rest_in (a b : List Int) (ha : a.length ≤ 16) (hb : b.length ≤ 16) : 0 ≤ restI a b ∧ restI a b ≤ 1000 := by
 have m1 := mul_in (x := (a.length : Int)) (y := (a.length : Int) + 1) (p := 16) (q := 17) ⟨by omega, by omega⟩ ⟨by omega, by omega⟩
 have m2 := mul_in (x := 2 * (a.length : Int)) (y := (b.length : Int)) (p := 32) (q := 16) ⟨by omega, by omega⟩ ⟨by omega, by omega⟩
 unfold restI
 generalize (a.length : Int) * ((a.length : Int) + 1) = u at m1 ⊢
 generalize 2 * (a.length : Int) * (b.length : Int) = v at m2 ⊢
 omega
theorem ranks_in (l : List Int) (hl : l.length ≤ 32) : (∀ r ∈ ranksI l, 0 ≤ r ∧ r ≤ 1000) ∧ (ranksI l).length = l.length := by
 refine ⟨fun r hr => ?_, by simp [ranksI]⟩
 obtain ⟨x, _, rfl⟩ := List.mem_map.1 hr
 have := rankI_in l x
 omega
def outOK (n R : Int) (L : Int × Int → Bool) (f : Int × Int → Int) (G : Int → Int) : Prop := ∀ x, kInt.ok x → G x = doneT L f (n, R - x)
theorem outOK_hit {n R : Int} {L : Int × Int → Bool} {f : Int × Int → Int} {G : Int → Int} (h : outOK n R L f G) (p : Int × Int) (hL : L p = true) (hp : p.1 = n) : outOK n R (fun k => L k && !decide (k = p)) f (upd G (R - p.2) (G (R - p.2) + f p)) := by
 intro x hx
 rw [done_step L f p _ hL]
 unfold upd
 by_cases he : x = R - p.2
 · have h2 : (n, R - x) = p := by
    refine Prod.ext hp.symm ?_
    simp only
    omega
   rw [if_pos he, if_pos h2, ← he, h x hx]
 · have h2 : ¬ (n, R - x) = p := fun h => he (by
    have := congrArg Prod.snd h
    simp only at this
    omega)
   rw [if_neg he, if_neg h2, h x hx]
   omega
theorem outOK_miss {n R : Int} {L : Int × Int → Bool} {f : Int × Int → Int} {G : Int → Int} (h : outOK n R L f G) (p : Int × Int) (hL : L p = true) (hp : ¬ p.1 = n) : outOK n R (fun k => L k && !decide (k = p)) f G := by
 intro x hx
 rw [done_step L f p _ hL, if_neg (fun h => hp (by rw [← h])), h x hx]
 omega
set_option maxHeartbeats 4000000 in
set_option maxRecDepth 100000 in
/-- hand.choices -/
theorem choices_calls (A : Option Addr) (c : Nat) (a : List Int) (B : Option Addr) (d : Nat) (b : List Int) (w : World) (hr : Kd.C (Kd.int .i64) w A a.length a) (hc : a.length ≤ c) (hl : a.length ≤ 16) (hr2 : Kd.C (Kd.int .i64) w B b.length b) (hc2 : b.length ≤ d) (hl2 : b.length ≤ 16) :
  Calls Try.prog 49 #[.slice A a.length c, .slice B b.length d] w fun e w' => ∃ m n, e = .returned (.map (some m)) ∧ MapF kInt w' m n (chF a b) ∧ Below w.heap.size w w' := by
 have hu107 := Try.underlying107
 have hmm := @run_makeMap Try.prog
 have hM : maxLen = 9223372036854775807 := rfl
 have HR := Aside0.mk hr
 have HR2 := Aside0.mk hr2
 have hlen : (a ++ b).length ≤ 32 := by rw [List.length_append]; omega
 have HLN := Aside0.mk hlen
 have HRK := Aside0.mk (ranks_in (a ++ b) hlen)
 have HQ := Aside0.mk (rest_wraps (a.length : Int) (b.length : Int) (by omega) (by omega))
 have HREST := Aside0.mk (rest_in a b hl hl2)
 clear hr hr2 hlen
 go_enter Try.func49, Try.ntmps49
 go_wp2_with (go_at_call 71; refine (pool_calls _ _ _ _).mono ?_; rintro e w' ⟨rfl, rfl⟩)
 have s1 : (w.alloc (.cells #[.slice A a.length c] 71)).heap.size = w.heap.size + 1 := by simp
 have s2 : ((w.alloc (.cells #[.slice A a.length c] 71)).alloc (.cells #[.slice A a.length c, .slice B b.length d] 71)).heap.size = w.heap.size + 1 + 1 := by simp
 have b0 := blk_new w (.cells #[.slice A a.length c] 71)
 have b1 := blk_new (w.alloc (.cells #[.slice A a.length c] 71)) (.cells #[.slice A a.length c, .slice B b.length d] 71)
 have b2 := blk_new ((w.alloc (.cells #[.slice A a.length c] 71)).alloc (.cells #[.slice A a.length c, .slice B b.length d] 71)) (.cells #[.slice (some ⟨w.heap.size + 1, 0, none⟩) 2 2] 113)
 rw [s1] at b1
 rw [s2] at b2
 have c0 := blk_alloc (blk_alloc b0 (.cells #[.slice A a.length c, .slice B b.length d] 71)) (.cells #[.slice (some ⟨w.heap.size + 1, 0, none⟩) 2 2] 113)
 have c1 := blk_alloc b1 (.cells #[.slice (some ⟨w.heap.size + 1, 0, none⟩) 2 2] 113)
 have hb0 := below_alloc (below_alloc (below_alloc (Below.refl w.heap.size w) (.cells #[.slice A a.length c] 71)) (.cells #[.slice A a.length c, .slice B b.length d] 71)) (.cells #[.slice (some ⟨w.heap.size + 1, 0, none⟩) 2 2] 113)
 clear s1 s2 b0 b1
 generalize ((w.alloc (.cells #[.slice A a.length c] 71)).alloc (.cells #[.slice A a.length c, .slice B b.length d] 71)).alloc (.cells #[.slice (some ⟨w.heap.size + 1, 0, none⟩) 2 2] 113) = wl at b2 c0 c1 hb0 ⊢
 have H0 := Aside0.mk c0
 have HB0 := Aside0.mk hb0
 have hfl : [a, b].flatten = a ++ b := by simp
 refine (collect_calls (w.heap.size + 1 + 1) (w.heap.size + 1) 2 #[.slice A a.length c, .slice B b.length d] [a, b] wl b2 c1 (fun W' hb => Rw.two (Kd.C_below HR.out (HB0.out.trans (hb.mono HB0.out.size))) (Kd.C_below HR2.out (HB0.out.trans (hb.mono HB0.out.size)))) (by simp) (fun l hl => by
  rcases List.mem_cons.1 hl with rfl | hl
  · omega
  · rw [List.mem_singleton.1 hl]; omega) (by rw [hfl]; have := HLN.out; omega)).mono ?_
 rintro e w2 ⟨v, rfl, hv, hb⟩
 rw [hfl] at hv
 have HCH := Aside0.mk (show ∀ x, chF a b x = wT a.length (ranksI (a ++ b)) ((a.length : Int), restI a b - x) from fun x => rfl)
 generalize a ++ b = l at hv HLN HRK HCH
 obtain ⟨A5, c5, rfl, hc5, hC5⟩ := Kd.R_reads hv
 have HC5 := Aside0.mk hC5
 have HB2 := Aside0.mk (HB0.out.trans (hb.mono HB0.out.size))
 have H02 := Aside0.mk (blk_below2 hb H0.out)
 clear hv hb hC5 b2 c0 c1 hb0 H0 hfl HB0
 go_wp2_with fail
 refine (ranks_calls A5 c5 l _ HC5.out hc5 (by have := HLN.out; omega)).mono ?_
 rintro e w3 ⟨v, rfl, hv, hb⟩
 obtain ⟨A6, c6, rfl, hc6, hC6⟩ := Kd.R_reads hv
 have HC6 := Aside0.mk hC6
 have HB3 := Aside0.mk (HB2.out.trans (hb.mono HB2.out.size))
 have H03 := Aside0.mk (blk_below2 hb H02.out)
 clear hv hb hC6 H02 HB2 HC5 hc5
 go_wp2_with fail
 refine (countT_calls w.heap.size A c a A6 c6 (ranksI l) _ H03.out HC6.out hc6 (by rw [HRK.out.2]; exact HLN.out) HRK.out.1).mono ?_
 rintro e w4 ⟨m1, n1, rfl, hMP, hn1, hm1, hb⟩
 have HMP := Aside0.mk hMP
 have HB4 := Aside0.mk (HB3.out.trans (hb.mono HB3.out.size))
 have H04 := Aside0.mk (blk_below2 hb H03.out)
 have HN1 := Aside0.mk (And.intro hn1 (show w.heap.size ≤ m1 by have := HB3.out.size; omega))
 clear hMP hn1 hm1 hb H03 HB3 HC6 hc6
 have hWs := wT_ws a.length (ranksI l) HRK.out.1 (ranksI l).length (Nat.le_refl _)
 rw [List.take_length] at hWs
 have HI := Aside0.mk (show (ranksI l).length ≤ 32 by rw [HRK.out.2]; exact HLN.out)
 generalize (ranksI l).length = i at HMP hWs HI
 generalize wT a.length (ranksI l) = f at HMP hWs HCH
 have HW := Aside0.mk hWs
 clear hWs
 obtain ⟨q1, q2, q3, q4, q5⟩ := HQ.out
 have ca : w4.cell? ⟨w.heap.size, 0, none⟩ = some (.slice A a.length c) := (blk_cell H04.out 0).trans rfl
 generalize hR : restI a b = R at HREST HCH
 replace q5 : wrap64 ((a.length : Int) * ((a.length : Int) + 1) + 2 * (a.length : Int) * (b.length : Int)) = R := q5.trans (show (a.length : Int) * ((a.length : Int) + 1) + 2 * (a.length : Int) * (b.length : Int) = R from hR)
 go_upto_region 5 with fail
 rw [q5]
 clear q1 q2 q3 q4 q5 ca
 have hmk := MapF.made (X := kInt) w4
 have hMw := HMP.out.below (below_alloc (Below.refl w4.heap.size w4) (.map #[] 0))
 have HIL := Aside0.mk (show i ≤ 40 by have := HI.out; omega)
 go_wp2_with (at_range; refine wpList_rangeF (X := kT i) rfl _ 104 rfl und104 m1 n1 f rfl hMw ?_; intro wi L cnt hrg hL hcnt hgw hsz)
 go_frame
 have HG0 := Aside0.mk (show MapF kInt wi w4.heap.size 0 (fun _ => 0) from hmk.kept hgw (by simp))
 have HRG := Aside0.mk hrg
 have HGO := Aside0.mk (show outOK a.length R L f (fun _ => 0) from fun x _ => by
  unfold doneT
  by_cases h0 : f ((a.length : Int), R - x) = 0
  · rw [h0]; split <;> rfl
  · cases hq : L ((a.length : Int), R - x) with
    | true => rw [if_pos rfl]
    | false => exact absurd (hL _ (ok_of_ws HW.out HIL.out h0) hq) h0)
 have HCN := Aside0.mk hcnt
 have HBW := Aside0.mk (show Below w.heap.size w wi from (below_alloc HB4.out (.map #[] 0)).grown hgw (by simp; have := HB4.out.size; omega) (fun k e => by cases e))
 have HNE := Aside0.mk (show w4.heap.size ≠ m1 by have := HMP.out.lt; omega)
 have HWR := Aside0.mk (show w.heap.size ≤ w4.heap.size from HB4.out.size)
 have HBX := Aside0.mk (show wi.heap[w.heap.size]? = some (.cells #[.slice A a.length c] 71 (0, 0)) from (hgw.block _ (by have := blk_lt2 H04.out; simp; omega) (by simp)).trans (blk_alloc H04.out _))
 have HBL := Aside0.mk (show w.heap.size < w4.heap.size from blk_lt2 H04.out)
 clear hmk hMw hrg hL hcnt hgw hsz H04 HB4
 rw [World.size_alloc] at HRG ⊢
 obtain ⟨b2, hb2⟩ : ∃ b2, b2 = w4.heap.size := ⟨_, rfl⟩
 rw [← hb2] at HG0 HRG HNE HWR HBL ⊢
 clear hb2
 go_loopw [10] (fun _ wr => ∃ (L : Int × Int → Bool) (cnt n2 : Nat) (g : Int → Int), Aside0 (RangeF (kT i) wr m1 (b2 + 1) f L cnt) ∧ Aside0 (MapF kInt wr b2 n2 g) ∧ Aside0 (n2 + cnt ≤ n1) ∧ Aside0 (outOK a.length R L f g) ∧ Aside0 (Below w.heap.size w wr) ∧ Aside0 (wr.heap[w.heap.size]? = some (.cells #[.slice A a.length c] 71 (0, 0)))) (fun _ wr => wr.rangeLeft m1 (b2 + 1))
 case atStart => exact ⟨L, cnt, 0, _, HRG, HG0, ⟨by have := HCN.out; omega⟩, HGO, HBW, HBX⟩
 case round =>
  clear HRG HG0 HCN HGO HBW HBX
  obtain ⟨L, cnt, n2, g, HRG, HG, HN2, HGO, HBW, HBX⟩ := hrel
  rename World => wj
  go_wp2_with (at_next; refine wpList_nextF (X := kT i) rfl _ rfl m1 (b2 + 1) cnt f L rfl HRG.out ?_ ?_)
  · intro hL
    have HGE := Aside0.mk (HG.out.congr (g := chF a b) (fun x hx => by
     rw [HGO.out x hx, HCH.out x]
     unfold doneT
     by_cases h0 : f ((a.length : Int), R - x) = 0
     · rw [h0]; split <;> rfl
     · rw [hL _ _ (ok_of_ws HW.out HIL.out h0)]; rfl))
    clear hL
    go_wp2
    go_ret
    exact ⟨b2, n2, rfl, HGE.out, HBW.out⟩
  · intro x1 x2 w5 cnt5 hx hLx hrg5 hlt5 hg5 hs5 hen
    have hbx : (kT i).enc (x1, x2) = .agg #[.int .i64 x1, .int .i64 x2] := rfl
    rw [hbx] at hen ⊢
    have HLQ := Aside0.mk HRG.out.left_eq
    have HG5 := Aside0.mk (HG.out.kept hg5 (by simp))
    have HR5 := Aside0.mk hrg5
    have HB5 := Aside0.mk (HBW.out.grown hg5 (by have := HBW.out.size; omega) (fun k e => by cases e; have := HWR.out; omega))
    have HL5 := Aside0.mk hlt5
    have hbx5 := (hg5.block _ (blk_lt2 HBX.out) (fun e => by have := HBL.out; have := Option.some.inj e; omega)).trans HBX.out
    have hbn : Below w5.heap.size w5 (w5.alloc (.cells #[.int .i64 x1, .int .i64 x2] 107)) := below_alloc (Below.refl _ _) _
    have hbx6 := blk_below2 hbn hbx5
    have HBX6 := Aside0.mk hbx6
    have ca : (w5.alloc (.cells #[.int .i64 x1, .int .i64 x2] 107)).cell? ⟨w.heap.size, 0, none⟩ = some (.slice A a.length c) := (blk_cell hbx6 0).trans rfl
    have HR6 := Aside0.mk (HR5.out.kept (World.grownBy_alloc w5 (.cells #[.int .i64 x1, .int .i64 x2] 107) none) (by simp) (by simp))
    have HG6 := Aside0.mk (HG5.out.below hbn)
    have HB6 := Aside0.mk (HB5.out.trans (hbn.mono HB5.out.size))
    by_cases hp : x1 = (a.length : Int)
    · have d1 : (x1 == (a.length : Int)) = true := beq_iff_eq.2 hp
      have d2 : decide (x1 = (a.length : Int)) = true := decide_eq_true hp
      have HO := Aside0.mk (outOK_hit HGO.out (x1, x2) hLx hp)
      have HK := Aside0.mk (show kInt.ok (R - x2) by have := hx.2; have := HREST.out; have := HIL.out; exact ⟨by omega, by omega⟩)
      have hlk := HG6.out.look und80 HK.out
      have HV := Aside0.mk (show 0 ≤ g (R - x2) ∧ g (R - x2) ≤ 4294967296 by
       rw [HGO.out _ HK.out]
       unfold doneT
       have h1 := HW.out.pos ((a.length : Int), R - (R - x2))
       have h2 := HW.out.le ((a.length : Int), R - (R - x2))
       have h3 : (2 ^ i : Nat) ≤ 4294967296 := Nat.le_trans (Nat.pow_le_pow_right (by omega) HI.out) (by decide)
       split <;> omega)
      have HV2 := Aside0.mk (show 0 ≤ f (x1, x2) ∧ f (x1, x2) ≤ 4294967296 by
       have h1 := HW.out.pos (x1, x2)
       have h2 := HW.out.le (x1, x2)
       have h3 : (2 ^ i : Nat) ≤ 4294967296 := Nat.le_trans (Nat.pow_le_pow_right (by omega) HI.out) (by decide)
       omega)
      have e1 : wrap64 (R - x2) = R - x2 := by have h : -1000000 ≤ R - x2 ∧ R - x2 ≤ 1000000 := HK.out; exact w64' _ (by omega) (by omega)
      have e2 : wrap64 (g (R - x2) + f (x1, x2)) = g (R - x2) + f (x1, x2) := by have := HV.out; have := HV2.out; exact w64' _ (by omega) (by omega)
      obtain ⟨w3e, hes, hM3, hg3e⟩ := HG6.out.put und80 (by have := HN2.out; have := HN1.out; omega) HK.out (g (R - x2) + f (x1, x2))
      have hbe : kInt.enc (R - x2) = .int .i64 (R - x2) := rfl
      rw [hbe] at hlk hes
      have HM3 := Aside0.mk hM3
      have HR9 := Aside0.mk (HR6.out.kept hg3e (fun h => HNE.out (by cases h; rfl)) (by simp))
      have HB9 := Aside0.mk (HB6.out.grown hg3e HB6.out.size (fun k h => by cases h; exact HWR.out))
      have HBX9 := Aside0.mk ((hg3e.block _ (blk_lt2 HBX6.out) (fun h => by have := HBL.out; have := Option.some.inj h; omega)).trans HBX6.out)
      generalize f (x1, x2) = cc at hen HO e2 hes HM3
      clear hx hLx hrg5 hlt5 hg5 hs5 hbx hbx5 hbn hbx6 hM3 hg3e hbe hp
      clear HG HRG HGO HBW HBX HG5 HR5 HB5 HR6 HG6 HB6 HBX6 HV HV2
      go_wp2
      refine ⟨⟨_, cnt5, n2 + 1, _, HR9, HM3, ⟨by have := HN2.out; have := HL5.out; omega⟩, HO, HB9, HBX9⟩, ?_⟩
      rw [HR9.out.left_eq, HLQ.out]
      exact HL5.out
    · have d1 : (x1 == (a.length : Int)) = false := beq_false_of_ne hp
      have d2 : decide (x1 = (a.length : Int)) = false := decide_eq_false hp
      have HO := Aside0.mk (outOK_miss HGO.out (x1, x2) hLx hp)
      generalize f (x1, x2) = cc at hen
      clear hx hLx hrg5 hlt5 hg5 hs5 hbx hbx5 hbn hbx6
      clear HG HRG HGO HBW HBX HG5 HR5 HB5
      go_wp2
      refine ⟨⟨_, cnt5, n2, _, HR6, HG6, ⟨by have := HN2.out; have := HL5.out; omega⟩, HO, HB6, HBX6⟩, ?_⟩
      rw [HR6.out.left_eq, HLQ.out]
      exact HL5.out

end Go.Proofs.Ythddeillkdediaa.H
