/- Texts TA, U4 of this chapter, one behind the other. -/
import Derived.Carry
import Derived.ChangeSlices
import Derived.Laws.IdiomArrays
import Derived.Lib.SmallJoins
import Derived.LoopIn
import Derived.LoopNIn
import Derived.OpenShut
import Derived.WideShapes
import Derived.Test.YthddeillkdediaaXG
import Derived.Test.YthddeillkdediaaXH
import Derived.Test.YthddeillkdediaaXI
import Derived.Test.YthddeillkdediaaXJ

/- Arguments of chapter 10's laws, opened. -/
namespace Go.Proofs.Ythddeillkdediaa.H
open Go.RowKit Go.Proofs.YthddeillkdediaaW.PrintWords Go.Proofs.YthddeillkdediaaW.PrintLast Go.Proofs.YthddeillkdediaaW.PrintMore
open Go.Shelf Go.Proofs.Ythddeillkdediaa.QA
open Go.ChangeShapes Go.WideShapes Go.Joins
set_option linter.unusedVariables false
set_option linter.unusedSimpArgs false


def isByte (a : Int) : Prop := 0 ≤ a ∧ a ≤ 255
theorem wf_byte {a : Int} (h : (Lit.int .u8 a).wf = true) : isByte a := by
 simp [Lit.wf, IntKind.min, IntKind.max, IntKind.signed, IntKind.bits] at h
 unfold isByte
 omega
set_option maxRecDepth 100000 in
theorem trod_nums {H : Type} {enc : TypeId × Value → H} {W : World} {base : Nat} {held : Bool} {fuel : Nat} {v : Value} {x : DataW H × List MemPlace} {t e : TypeId} {k : IntKind}
    (ut : Try.prog.underlying t = some (.slice e)) (ue : Try.prog.underlying e = some (.int k)) (ce : Try.prog.cellsOf e = 1) (hf : DataW.trod enc Try.prog W base (fun _ => true) held fuel t [v] = some x) :
    ∃ (A : Option Addr) (c : Nat) (l : List Int), v = .slice A l.length c ∧ l.length ≤ c ∧ Kd.C (Kd.int k) W A l.length l ∧ ∀ n ∈ l, (Lit.int k n).wf = true := by
  have key : ∃ (A : Option Addr) (len cap : Nat) (zs : List Int), v = .slice A len cap ∧ ((A = none ∧ len = 0 ∧ cap = 0 ∧ zs = []) ∨ ∃ x, A = some x ∧ len ≤ cap ∧ cap ≤ maxLen ∧ zs.length = cap ∧ (∀ i, i < zs.length → W.cell? (x.add i) = some (.int k (zs.getD i 0))) ∧ ∀ n ∈ zs, (Lit.int k n).wf = true) := by
    rcases open_ints ut ue ce hf with ⟨hcs, _⟩ | ⟨x, l, c, zs, hcs, _, hl, hm, hz, _, hcell, hwz⟩
    · simp at hcs
      subst hcs
      exact ⟨none, 0, 0, [], rfl, .inl ⟨rfl, rfl, rfl, rfl⟩⟩
    · simp at hcs
      subst hcs
      exact ⟨_, _, _, zs, rfl, .inr ⟨_, rfl, hl, hm, by simpa using hz, hcell, hwz⟩⟩
  obtain ⟨A, len, cap, zs, rfl, w⟩ := key
  obtain ⟨l, rfl, hr, hm, hw, hc⟩ := ReadsInt.ofRowC w
  exact ⟨A, cap, l, rfl, hc, Kd.C_of_reads (d := (0 : Int)) (h1 := fun _ => rfl) hr, hw⟩
theorem und49 : Try.prog.underlying 49 = some (.slice 5) := by kernel_rfl
theorem und5 : Try.prog.underlying 5 = some (.int .u8) := by kernel_rfl
theorem array3_ {α : Type} {cs : Array α} (h : cs.size = 3) : ∃ c0 c1 c2, cs = #[c0, c1, c2] := by
 obtain ⟨l⟩ := cs
 match l, h with
 | [c0, c1, c2], _ => exact ⟨c0, c1, c2, rfl⟩
set_option maxRecDepth 100000 in
theorem open_touch {H : Type} {enc : TypeId × Value → H} {W : World} {r : Reach} {b0 : Nat} {v : Value} {d : DataW H} {p : List MemPlace}
  (hv : Value.okWide Try.prog W r b0 51 v) (h : DataW.Trod enc Try.prog W 0 (fun _ => true) true 51 v d p) :
  ∃ A c l B e m x, v = .agg #[.slice A l.length c, .slice B m.length e, .int .u8 x] ∧ (l.length ≤ c ∧ m.length ≤ e) ∧ Kd.C (Kd.int .u8) W A l.length l ∧ Kd.C (Kd.int .u8) W B m.length m ∧ (∀ n ∈ l, isByte n) ∧ (∀ n ∈ m, isByte n) ∧ isByte x := by
 have e51 : Try.prog.cellsOf 51 = 3 := by kernel_rfl
 have e49 : Try.prog.cellsOf 49 = 1 := by kernel_rfl
 have e5 : Try.prog.cellsOf 5 = 1 := by kernel_rfl
 obtain ⟨cs, rfl, hsz⟩ := okWide_struct Try.underlying51 hv
 obtain ⟨c0, c1, c2, rfl⟩ := array3_ (hsz.trans e51)
 obtain ⟨fuel, hf⟩ := h
 obtain ⟨xs, m, _, _, _, hl, hi⟩ := DataW.trod_struct Try.underlying51 hf
 match xs, hl with
 | [y0, y1, y2], _ =>
  have t0 := hi 0 _ rfl
  have t1 := hi 1 _ rfl
  have t2 := hi 2 _ rfl
  replace t0 : DataW.trod enc Try.prog W 0 (fun _ => true) true m 49 [c0] = some y0 := by simpa [Value.cells, e49, e5] using t0
  replace t1 : DataW.trod enc Try.prog W 0 (fun _ => true) true m 49 [c1] = some y1 := by simpa [Value.cells, e49, e5] using t1
  replace t2 : DataW.trod enc Try.prog W 0 (fun _ => true) true m 5 [c2] = some y2 := by simpa [Value.cells, e49, e5] using t2
  obtain ⟨A, c, l, rfl, h1, h2, h3⟩ := trod_nums und49 und5 e5 t0
  obtain ⟨B, e, n, rfl, k1, k2, k3⟩ := trod_nums und49 und5 e5 t1
  obtain ⟨x, r2, _, v2⟩ := DataW.trod_int und5 t2
  simp only [List.cons.injEq, and_true] at r2
  subst r2
  exact ⟨A, c, l, B, e, n, x, rfl, ⟨h1, k1⟩, h2, k2, fun n hn => wf_byte (h3 n hn), fun n hn => wf_byte (k3 n hn), wf_byte v2⟩
end Go.Proofs.Ythddeillkdediaa.H

/- pianolalaw10.HandAll. -/
namespace Go.Proofs.Ythddeillkdediaa.H
open Go.RowKit Go.Proofs.YthddeillkdediaaW.PrintWords Go.Proofs.YthddeillkdediaaW.PrintLast Go.Proofs.YthddeillkdediaaW.PrintMore
open Go.Shelf Go.Proofs.Ythddeillkdediaa.QA
set_option linter.unusedVariables false
set_option linter.unusedSimpArgs false


set_option maxRecDepth 100000 in
set_option maxHeartbeats 8000000 in
theorem handAll_calls (A0 : Option Addr) (c0 : Nat) (l0 : List Int) (A1 : Option Addr) (c1 : Nat) (l1 : List Int) (x : Int) (w : World) (hc : l0.length ≤ c0 ∧ l1.length ≤ c1) (hC0 : Kd.C (Kd.int .u8) w A0 l0.length l0) (hC1 : Kd.C (Kd.int .u8) w A1 l1.length l1) (hl : ∀ n ∈ l0, 0 ≤ n ∧ n ≤ 255) (hm : ∀ n ∈ l1, 0 ≤ n ∧ n ≤ 255) (hx : 0 ≤ x ∧ x ≤ 255) :
  Calls Try.prog 7 #[.agg #[.slice A0 l0.length c0, .slice A1 l1.length c1, .int .u8 x]] w fun e w' => e = .returned (.bool true) ∧ Below w.heap.size w w' := by
 have hu51 := Try.underlying51
 have hu34 := Try.underlying34
 obtain ⟨a, b, hmd, sa, sb⟩ := made_f l0 l1 hl hm x hx 20 (by omega)
 have HB := Aside0.mk (below_alloc (Below.refl w.heap.size w) (.cells #[.slice A0 l0.length c0, .slice A1 l1.length c1, .int .u8 x] 51))
 have K1 := Aside0.mk (blk_new w (.cells #[.slice A0 l0.length c0, .slice A1 l1.length c1, .int .u8 x] 51))
 have H0 := Aside0.mk (Kd.C_below hC0 HB.out)
 have H1 := Aside0.mk (Kd.C_below hC1 HB.out)
 have HA := Aside0.mk hc
 have HM := Aside0.mk hmd
 have HS := Aside0.mk (And.intro sa sb)
 clear hC0 hC1 hc hmd hl hm hx sa sb
 have k0 := (blk_cell K1.out 0).trans rfl
 have k1 := (blk_cell K1.out 1).trans rfl
 have k2 := (blk_cell K1.out 2).trans rfl
 go_enter Try.func7, Try.ntmps7
 go_wp2_with fail
 refine (pianolalaw10_Touch_made.calls 20 A0 c0 l0 A1 c1 l1 x a b _ H0.out HA.out.1 H1.out HA.out.2 HM.out).mono ?_
 rintro e w1 ⟨va, vb, rfl, hRa, hRb, hb⟩
 have HB1 := Aside0.mk (HB.out.trans (hb.mono HB.out.size))
 obtain ⟨Aa, ca, rfl, hca, hCa⟩ := Kd.R_reads hRa
 obtain ⟨Ab, cb, rfl, hcb, hCb⟩ := Kd.R_reads hRb
 have HCa := Aside0.mk (And.intro hca hCa)
 have HCb := Aside0.mk (And.intro hcb hCb)
 clear hb hRa hRb hca hCa hcb hCb k0 k1 k2 K1 H0 H1 HM HB
 have HLB := Aside0.mk (lbeats_f a b 2000 (by have := HS.out.1.2.1; omega) (by have := HS.out.2.2.1; omega) (by omega))
 obtain ⟨own, hown⟩ : ∃ own, own = beatsI a b := ⟨_, rfl⟩
 have HO := Aside0.mk hown
 have HOB := Aside0.mk (show 0 ≤ own ∧ own ≤ 1000 by rw [hown]; have := beats_small a b (by have := HS.out.1.2.1; omega) (by have := HS.out.2.2.1; omega); omega)
 rw [← hown] at HLB
 clear hown
 go_wp2_with fail
 refine (pianolalaw10_beats.calls 2000 Aa ca a Ab cb b own _ HCa.out.2 HCa.out.1 HCb.out.2 HCb.out.1 HLB.out).mono ?_
 rintro e w2 ⟨rfl, hd⟩
 have hb := hd.below; clear hd
 have HB2 := Aside0.mk (below_then HB1.out HB1.out.size hb)
 have hCa2 := Aside0.mk (Kd.C_below HCa.out.2 hb)
 have hCb2 := Aside0.mk (Kd.C_below HCb.out.2 hb)
 clear hb
 go_wp2
 obtain ⟨N, hN⟩ : ∃ N, N = a.length + b.length := ⟨_, rfl⟩
 have HN := Aside0.mk (And.intro hN (show N ≤ 10 by have := HS.out.1.2.1; have := HS.out.2.2.1; omega))
 obtain ⟨T, hT⟩ : ∃ T, T = 2 ^ N := ⟨_, rfl⟩
 have hTT : T ≤ 1024 := by rw [hT]; exact Nat.le_trans (Nat.pow_le_pow_right (by omega) HN.out.2) (by decide)
 have hN64 : N ≤ 64 := by have := HN.out.2; omega
 have hN64b : (N : Int) ≤ 64 := by omega
 have hw : wrap64 ((a.length : Int) + (b.length : Int)) = (N : Int) := by rw [w64' _ (by omega) (by have := HN.out; omega), HN.out.1]; push_cast; rfl
 have hp : wrap64 ((2 : Int) ^ N) = (T : Int) := by
  have e : (2 : Int) ^ N = (T : Int) := by rw [hT]; push_cast; rfl
  rw [e, w64' _ (by omega) (by omega)]
 have HTF := Aside0.mk (And.intro hT (And.intro hTT (And.intro hN64 (And.intro hN64b (And.intro hw hp)))))
 have hmm := mul_in (x := (a.length : Int)) (y := (b.length : Int)) (p := 5) (q := 5) (by have := HS.out.1.2.1; omega) (by have := HS.out.2.2.1; omega)
 obtain ⟨mid, hmid⟩ : ∃ mid, mid = (a.length : Int) * (b.length : Int) := ⟨_, rfl⟩
 rw [← hmid] at hmm
 have hwm : wrap64 ((a.length : Int) * (b.length : Int)) = mid := by rw [← hmid, w64' _ (by omega) (by omega)]
 have HMD := Aside0.mk (And.intro hmm (And.intro hmid hwm))
 obtain ⟨q7, hq7⟩ : ∃ q, q = fun p : List Int × List Int => decide (beatsI p.1 p.2 ≤ own) := ⟨_, rfl⟩
 obtain ⟨q8, hq8⟩ : ∃ q, q = fun p : List Int × List Int => decide (own ≤ beatsI p.1 p.2) := ⟨_, rfl⟩
 obtain ⟨q9, hq9⟩ : ∃ q, q = fun p : List Int × List Int => decide (beatsI p.1 p.2 = own) := ⟨_, rfl⟩
 obtain ⟨q10, hq10⟩ : ∃ q, q = fun p : List Int × List Int => true := ⟨_, rfl⟩
 obtain ⟨q11, hq11⟩ : ∃ q, q = fun p : List Int × List Int => decide (farI own mid ≤ farI (beatsI p.1 p.2) mid) := ⟨_, rfl⟩
 have HQ := Aside0.mk (And.intro hq7 (And.intro hq8 (And.intro hq9 (And.intro hq10 hq11))))
 have h0 : ∀ q, cntK a b q 0 = 0 := fun _ => rfl
 have H00 := Aside0.mk h0
 rw [hwm]
 clear hN hT hTT hN64 hN64b hw hp hmm hmid hwm hq7 hq8 hq9 hq10 hq11 h0
 go_loopw [7, 8, 9, 10, 11, 12] (fun s7 s8 s9 s10 s11 s12 wr => ∃ i : Nat, s12 = .int .i64 i ∧ s7 = .int .i64 (cntK a b q7 i) ∧ s8 = .int .i64 (cntK a b q8 i) ∧ s9 = .int .i64 (cntK a b q9 i) ∧ s10 = .int .i64 (cntK a b q10 i) ∧ s11 = .int .i64 (cntK a b q11 i) ∧ Aside0 (i ≤ T) ∧ Aside0 (Below w2.heap.size w2 wr)) (fun _ _ _ _ _ s12 _ => T - (intOf s12).toNat)
 case atStart => exact ⟨0, rfl, rfl, rfl, rfl, rfl, rfl, ⟨Nat.zero_le _⟩, ⟨Below.refl _ _⟩⟩
 case round =>
  obtain ⟨i, rfl, rfl, rfl, rfl, rfl, rfl, HI, HBw⟩ := hrel
  have hN64 := HTF.out.2.2.1
  have hN64b := HTF.out.2.2.2.1
  have hw := HTF.out.2.2.2.2.1
  have hp := HTF.out.2.2.2.2.2
  by_cases hj : i < T
  · have n1 : i < T := hj
    have hd : decide ((i : Int) < (T : Int)) = true := decide_eq_true (by omega)
    have HIT := Aside0.mk (show i ≤ 1000 + 24 by have := HTF.out.2.1; omega)
    clear hj
    have HCH := Aside0.mk (chosen_f a b i 40 (by have := HS.out.1.2.1; have := HS.out.2.2.1; omega) (by have := HIT.out; omega) (by omega))
    have hpm := splits_len _ _ (pick_mem (a ++ b) i)
    rw [List.length_append] at hpm
    obtain ⟨c, hc⟩ : ∃ c, c = (pickL (a ++ b) i).1 := ⟨_, rfl⟩
    obtain ⟨d, hdd⟩ : ∃ d, d = (pickL (a ++ b) i).2 := ⟨_, rfl⟩
    rw [← hc, ← hdd] at HCH hpm
    have HP := Aside0.mk (show pickL (a ++ b) i = (c, d) by rw [hc, hdd])
    have HCD := Aside0.mk (show c.length ≤ 10 ∧ d.length ≤ 10 by have := HS.out.1.2.1; have := HS.out.2.2.1; omega)
    clear hc hdd hpm
    go_wp2_with fail
    refine (pianolalaw10_chosen.calls 40 Aa ca a Ab cb b (i : Int) c d _ _ (Kd.C_below hCa2.out HBw.out) HCa.out.1 (Kd.C_below hCb2.out HBw.out) HCb.out.1 HCH.out).mono ?_
    rintro e w3 ⟨vc, vd, rfl, hRc, hRd, hb⟩
    have HB3 := Aside0.mk (HBw.out.trans (hb.mono HBw.out.size))
    clear hb
    obtain ⟨Ac, cc, rfl, hcc, hCc⟩ := Kd.R_reads hRc
    obtain ⟨Ad, cd, rfl, hcd, hCd⟩ := Kd.R_reads hRd
    have HCc := Aside0.mk (And.intro hcc hCc)
    have HCd := Aside0.mk (And.intro hcd hCd)
    clear hRc hRd hcc hCc hcd hCd HBw
    by_cases hok : c.length = a.length
    · have hbe : (((c.length : Nat) : Int) == (a.length : Int)) = true := by rw [hok]; exact beq_self_eq_true _
      rw [hbe]
      have HOK := Aside0.mk hok
      clear hbe hok HCH
      have HLB2 := Aside0.mk (lbeats_f c d 2000 (by have := HCD.out; omega) (by have := HCD.out; omega) (by omega))
      have hnb := beats_small c d (by have := HCD.out; omega) (by have := HCD.out; omega)
      obtain ⟨n, hn⟩ : ∃ n, n = beatsI c d := ⟨_, rfl⟩
      rw [← hn] at HLB2 hnb
      have HF1 := Aside0.mk (lfar_f n mid (by omega) (by have := HMD.out.1; omega))
      have HF2 := Aside0.mk (lfar_f own mid (by have := HOB.out; omega) (by have := HMD.out.1; omega))
      obtain ⟨f1, hf1⟩ : ∃ f, f = farI n mid := ⟨_, rfl⟩
      obtain ⟨f2, hf2⟩ : ∃ f, f = farI own mid := ⟨_, rfl⟩
      rw [← hf1] at HF1
      rw [← hf2] at HF2
      have hy : ∀ q, q (c, d) = true → wrap64 ((cntK a b q i : Int) + 1) = (cntK a b q (i + 1) : Int) ∧ True := fun q hq => by
        have h1 := cntK_succ a b q i
        rw [HP.out, decide_eq_true HOK.out, Bool.true_and, if_pos hq] at h1
        have h2 := cntK_le a b q i
        have h3 := HIT.out
        refine ⟨?_, trivial⟩
        rw [h1, w64' _ (by omega) (by omega)]
        push_cast
        rfl
      have hno : ∀ q, ¬ q (c, d) = true → cntK a b q i = cntK a b q (i + 1) := fun q hq => by
        have h1 := cntK_succ a b q i
        rw [HP.out, decide_eq_true HOK.out, Bool.true_and, if_neg hq] at h1
        rw [h1, Nat.add_zero]
      have HY := Aside0.mk (And.intro hy hno)
      have HNN := Aside0.mk (And.intro hn (And.intro hf1 hf2))
      clear hy hno hn hf1 hf2 hnb
      go_wp2_with fail
      refine (pianolalaw10_beats.calls 2000 Ac cc c Ad cd d n _ HCc.out.2 HCc.out.1 HCd.out.2 HCd.out.1 HLB2.out).mono ?_
      rintro e w4 ⟨rfl, hd4⟩
      have hb := hd4.below; clear hd4
      have HB4 := Aside0.mk (HB3.out.trans (hb.mono HB3.out.size))
      clear hb HCc HCd HB3
      have u10 := (HY.out.1 q10 (by rw [HQ.out.2.2.2.1])).1
      rcases Int.lt_trichotomy n own with hlt | heq | hgt
      · have hN := HNN.out.1
        have u7 := (HY.out.1 q7 (by rw [HQ.out.1]; exact decide_eq_true (by rw [← hN]; omega))).1
        have u8 := HY.out.2 q8 (by rw [HQ.out.2.1]; simp only [decide_eq_true_eq]; rw [← hN]; omega)
        have u9 := HY.out.2 q9 (by rw [HQ.out.2.2.1]; simp only [decide_eq_true_eq]; rw [← hN]; omega)
        have z7 : decide (n ≤ own) = true := decide_eq_true (by omega)
        have z8 : decide (own ≤ n) = false := decide_eq_false (by omega)
        have z9 : decide (n = own) = false := decide_eq_false (by omega)
        have z9b : (n == own) = false := by simp; omega
        have HU := Aside0.mk (And.intro u7 (And.intro u8 (And.intro u9 u10)))
        clear u7 u8 u9 u10 hN hlt
        go_wp2_with fail
        refine (pianolalaw10_far.calls n mid f1 _ HF1.out).mono ?_
        rintro e w5 ⟨rfl, hb⟩
        have HB5 := Aside0.mk (HB4.out.trans (hb.mono HB4.out.size))
        clear hb HB4
        go_wp2_with fail
        refine (pianolalaw10_far.calls own mid f2 _ HF2.out).mono ?_
        rintro e w6 ⟨rfl, hb⟩
        have HB6 := Aside0.mk (HB5.out.trans (hb.mono HB5.out.size))
        clear hb HB5
        by_cases hf : f2 ≤ f1
        · have u11 := (HY.out.1 q11 (by rw [HQ.out.2.2.2.2]; exact decide_eq_true (by simp only; rw [← HNN.out.1, ← HNN.out.2.1, ← HNN.out.2.2]; exact hf))).1
          have z11 : decide (f2 ≤ f1) = true := decide_eq_true hf
          have HU11 := Aside0.mk u11
          clear u11
          go_wp2
          refine ⟨⟨i + 1, congrArg _ (wrap_up i (by have := HIT.out; omega)), congrArg _ HU.out.1, congrArg (fun m : Nat => Value.int .i64 (m : Int)) HU.out.2.1, congrArg (fun m : Nat => Value.int .i64 (m : Int)) HU.out.2.2.1, congrArg _ HU.out.2.2.2, congrArg _ HU11.out, ⟨n1⟩, HB6⟩, ?_⟩
          rw [wrap_up i (by have := HIT.out; omega)]; exact meas_up T i n1
        · have u11 := HY.out.2 q11 (by rw [HQ.out.2.2.2.2]; simp only [decide_eq_true_eq]; rw [← HNN.out.1, ← HNN.out.2.1, ← HNN.out.2.2]; exact hf)
          have z11 : decide (f2 ≤ f1) = false := decide_eq_false hf
          have HU11 := Aside0.mk u11
          clear u11
          go_wp2
          refine ⟨⟨i + 1, congrArg _ (wrap_up i (by have := HIT.out; omega)), congrArg _ HU.out.1, congrArg (fun m : Nat => Value.int .i64 (m : Int)) HU.out.2.1, congrArg (fun m : Nat => Value.int .i64 (m : Int)) HU.out.2.2.1, congrArg _ HU.out.2.2.2, congrArg (fun m : Nat => Value.int .i64 (m : Int)) HU11.out, ⟨n1⟩, HB6⟩, ?_⟩
          rw [wrap_up i (by have := HIT.out; omega)]; exact meas_up T i n1
      · have hN := HNN.out.1
        have u7 := (HY.out.1 q7 (by rw [HQ.out.1]; exact decide_eq_true (by rw [← hN]; omega))).1
        have u8 := (HY.out.1 q8 (by rw [HQ.out.2.1]; exact decide_eq_true (by rw [← hN]; omega))).1
        have u9 := (HY.out.1 q9 (by rw [HQ.out.2.2.1]; exact decide_eq_true (by rw [← hN]; omega))).1
        have z7 : decide (n ≤ own) = true := decide_eq_true (by omega)
        have z8 : decide (own ≤ n) = true := decide_eq_true (by omega)
        have z9 : decide (n = own) = true := decide_eq_true (by omega)
        have z9b : (n == own) = true := by simp; omega
        have HU := Aside0.mk (And.intro u7 (And.intro u8 (And.intro u9 u10)))
        clear u7 u8 u9 u10 hN heq
        go_wp2_with fail
        refine (pianolalaw10_far.calls n mid f1 _ HF1.out).mono ?_
        rintro e w5 ⟨rfl, hb⟩
        have HB5 := Aside0.mk (HB4.out.trans (hb.mono HB4.out.size))
        clear hb HB4
        go_wp2_with fail
        refine (pianolalaw10_far.calls own mid f2 _ HF2.out).mono ?_
        rintro e w6 ⟨rfl, hb⟩
        have HB6 := Aside0.mk (HB5.out.trans (hb.mono HB5.out.size))
        clear hb HB5
        by_cases hf : f2 ≤ f1
        · have u11 := (HY.out.1 q11 (by rw [HQ.out.2.2.2.2]; exact decide_eq_true (by simp only; rw [← HNN.out.1, ← HNN.out.2.1, ← HNN.out.2.2]; exact hf))).1
          have z11 : decide (f2 ≤ f1) = true := decide_eq_true hf
          have HU11 := Aside0.mk u11
          clear u11
          go_wp2
          refine ⟨⟨i + 1, congrArg _ (wrap_up i (by have := HIT.out; omega)), congrArg _ HU.out.1, congrArg _ HU.out.2.1, congrArg _ HU.out.2.2.1, congrArg _ HU.out.2.2.2, congrArg _ HU11.out, ⟨n1⟩, HB6⟩, ?_⟩
          rw [wrap_up i (by have := HIT.out; omega)]; exact meas_up T i n1
        · have u11 := HY.out.2 q11 (by rw [HQ.out.2.2.2.2]; simp only [decide_eq_true_eq]; rw [← HNN.out.1, ← HNN.out.2.1, ← HNN.out.2.2]; exact hf)
          have z11 : decide (f2 ≤ f1) = false := decide_eq_false hf
          have HU11 := Aside0.mk u11
          clear u11
          go_wp2
          refine ⟨⟨i + 1, congrArg _ (wrap_up i (by have := HIT.out; omega)), congrArg _ HU.out.1, congrArg _ HU.out.2.1, congrArg _ HU.out.2.2.1, congrArg _ HU.out.2.2.2, congrArg (fun m : Nat => Value.int .i64 (m : Int)) HU11.out, ⟨n1⟩, HB6⟩, ?_⟩
          rw [wrap_up i (by have := HIT.out; omega)]; exact meas_up T i n1
      · have hN := HNN.out.1
        have u7 := HY.out.2 q7 (by rw [HQ.out.1]; simp only [decide_eq_true_eq]; rw [← hN]; omega)
        have u8 := (HY.out.1 q8 (by rw [HQ.out.2.1]; exact decide_eq_true (by rw [← hN]; omega))).1
        have u9 := HY.out.2 q9 (by rw [HQ.out.2.2.1]; simp only [decide_eq_true_eq]; rw [← hN]; omega)
        have z7 : decide (n ≤ own) = false := decide_eq_false (by omega)
        have z8 : decide (own ≤ n) = true := decide_eq_true (by omega)
        have z9 : decide (n = own) = false := decide_eq_false (by omega)
        have z9b : (n == own) = false := by simp; omega
        have HU := Aside0.mk (And.intro u7 (And.intro u8 (And.intro u9 u10)))
        clear u7 u8 u9 u10 hN hgt
        go_wp2_with fail
        refine (pianolalaw10_far.calls n mid f1 _ HF1.out).mono ?_
        rintro e w5 ⟨rfl, hb⟩
        have HB5 := Aside0.mk (HB4.out.trans (hb.mono HB4.out.size))
        clear hb HB4
        go_wp2_with fail
        refine (pianolalaw10_far.calls own mid f2 _ HF2.out).mono ?_
        rintro e w6 ⟨rfl, hb⟩
        have HB6 := Aside0.mk (HB5.out.trans (hb.mono HB5.out.size))
        clear hb HB5
        by_cases hf : f2 ≤ f1
        · have u11 := (HY.out.1 q11 (by rw [HQ.out.2.2.2.2]; exact decide_eq_true (by simp only; rw [← HNN.out.1, ← HNN.out.2.1, ← HNN.out.2.2]; exact hf))).1
          have z11 : decide (f2 ≤ f1) = true := decide_eq_true hf
          have HU11 := Aside0.mk u11
          clear u11
          go_wp2
          refine ⟨⟨i + 1, congrArg _ (wrap_up i (by have := HIT.out; omega)), congrArg (fun m : Nat => Value.int .i64 (m : Int)) HU.out.1, congrArg _ HU.out.2.1, congrArg (fun m : Nat => Value.int .i64 (m : Int)) HU.out.2.2.1, congrArg _ HU.out.2.2.2, congrArg _ HU11.out, ⟨n1⟩, HB6⟩, ?_⟩
          rw [wrap_up i (by have := HIT.out; omega)]; exact meas_up T i n1
        · have u11 := HY.out.2 q11 (by rw [HQ.out.2.2.2.2]; simp only [decide_eq_true_eq]; rw [← HNN.out.1, ← HNN.out.2.1, ← HNN.out.2.2]; exact hf)
          have z11 : decide (f2 ≤ f1) = false := decide_eq_false hf
          have HU11 := Aside0.mk u11
          clear u11
          go_wp2
          refine ⟨⟨i + 1, congrArg _ (wrap_up i (by have := HIT.out; omega)), congrArg (fun m : Nat => Value.int .i64 (m : Int)) HU.out.1, congrArg _ HU.out.2.1, congrArg (fun m : Nat => Value.int .i64 (m : Int)) HU.out.2.2.1, congrArg _ HU.out.2.2.2, congrArg (fun m : Nat => Value.int .i64 (m : Int)) HU11.out, ⟨n1⟩, HB6⟩, ?_⟩
          rw [wrap_up i (by have := HIT.out; omega)]; exact meas_up T i n1
    · have hbe : (((c.length : Nat) : Int) == (a.length : Int)) = false := beq_false_of_ne (by omega)
      rw [hbe]
      have hst : ∀ q, cntK a b q i = cntK a b q (i + 1) := fun q => by
        have h1 := cntK_succ a b q i
        rw [HP.out, decide_eq_false hok, Bool.false_and, if_neg (by decide)] at h1
        rw [h1, Nat.add_zero]
      have HST := Aside0.mk hst
      clear hbe hst hok
      go_wp2
      refine ⟨⟨i + 1, congrArg _ (wrap_up i (by have := HIT.out; omega)), by rw [HST.out], by rw [HST.out], by rw [HST.out], by rw [HST.out], by rw [HST.out], ⟨n1⟩, HB3⟩, ?_⟩
      rw [wrap_up i (by have := HIT.out; omega)]; exact meas_up T i n1
  · obtain rfl : T = i := by have := HI.out; omega
    have hd : decide ((T : Int) < (T : Int)) = false := decide_eq_false (by omega)
    clear hj HI
    have hl5 := HS.out
    have HBT := Aside0.mk (smp_both HS.out.1 HS.out.2)
    obtain ⟨F, hF⟩ : ∃ F, F = cntK a b q7 T := ⟨_, rfl⟩
    obtain ⟨M, hM⟩ : ∃ M, M = cntK a b q8 T := ⟨_, rfl⟩
    obtain ⟨S, hS⟩ : ∃ S, S = cntK a b q9 T := ⟨_, rfl⟩
    obtain ⟨L, hL⟩ : ∃ L, L = cntK a b q10 T := ⟨_, rfl⟩
    obtain ⟨O, hO⟩ : ∃ O, O = cntK a b q11 T := ⟨_, rfl⟩
    rw [← hF, ← hM, ← hS, ← hL, ← hO]
    have hle := fun q => cntK_le a b q T
    have bF := hle q7
    have bM := hle q8
    have bS := hle q9
    have bL := hle q10
    have bO := hle q11
    rw [← hF] at bF
    rw [← hM] at bM
    rw [← hS] at bS
    rw [← hL] at bL
    rw [← hO] at bO
    have hTT := HTF.out.2.1
    have hTN : T = 2 ^ (a.length + b.length) := by rw [HTF.out.1, HN.out.1]
    rw [hTN, HQ.out.1] at hF
    rw [hTN, HQ.out.2.1] at hM
    rw [hTN, HQ.out.2.2.1] at hS
    rw [hTN, HQ.out.2.2.2.1] at hL
    rw [hTN, HQ.out.2.2.2.2] at hO
    have kF := hF.trans (cntK_all a b (fun x => decide (x ≤ own)))
    have kM := hM.trans (cntK_all a b (fun x => decide (own ≤ x)))
    have kS := hS.trans (cntK_all a b (fun x => decide (x = own)))
    have kL := hL.trans (cntK_all a b (fun x => true))
    have kO := hO.trans (cntK_all a b (fun x => decide (farI own mid ≤ farI x mid)))
    have htwo := cntB_two a b
    rw [← HO.out, ← kF, ← kM, ← kL, ← kS] at htwo
    have hL0 : 0 < L := by rw [kL]; exact cntB_pos a b _ rfl
    obtain ⟨p1, hp1⟩ : ∃ p, p = (lowI O L).1 := ⟨_, rfl⟩
    obtain ⟨p2, hp2⟩ : ∃ p, p = (lowI O L).2 := ⟨_, rfl⟩
    have HE := Aside0.mk (show hand_Beats.f a b = some (own, 0) ∧ hand_Tails.f a b = some ((F : Int), (M : Int), (L : Int), 0) ∧ hand_Chance.f a b = some (p1, p2, 0) ∧ pianolalaw10_lowest.f 200 p1 p2 (O : Int) (L : Int) = some true by
      refine ⟨?_, ?_, ?_, ?_⟩
      · unfold hand_Beats.f; rw [if_pos HBT.out, ← HO.out]
      · unfold hand_Tails.f; rw [if_pos HBT.out, ← HO.out, ← kF, ← kM, ← kL]
      · unfold hand_Chance.f chanceI; rw [if_pos HBT.out, ← HO.out, ← HMD.out.2.1, ← kO, ← kL, ← hp1, ← hp2]
      · rw [lowest_f O L 200 p1 p2 hL0 (by omega) (by omega) (by omega), ← hp1, ← hp2]; simp)
    have hs : wrap64 ((F : Int) + (M : Int)) = wrap64 ((L : Int) + (S : Int)) := by congr 1; omega
    clear hl5 hF hM hS hL hO bF bM bS bL bO kF kM kS kL kO htwo hL0 hp1 hp2 hle hTT hTN
    go_wp2_with fail
    refine (hand_Beats.calls Aa ca a Ab cb b own 0 _ (Kd.C_below hCa2.out HBw.out) HCa.out.1 (Kd.C_below hCb2.out HBw.out) HCb.out.1 HE.out.1).mono ?_
    rintro e w3 ⟨rfl, hb⟩
    have HB3 := Aside0.mk (HBw.out.trans (hb.mono HBw.out.size))
    clear hb HBw
    go_wp2_with fail
    refine (hand_Tails.calls Aa ca a Ab cb b F M L 0 _ (Kd.C_below hCa2.out HB3.out) HCa.out.1 (Kd.C_below hCb2.out HB3.out) HCb.out.1 HE.out.2.1).mono ?_
    rintro e w4 ⟨rfl, hb⟩
    have HB4 := Aside0.mk (HB3.out.trans (hb.mono HB3.out.size))
    clear hb HB3
    go_wp2_with fail
    refine (hand_Chance.calls Aa ca a Ab cb b p1 p2 0 _ (Kd.C_below hCa2.out HB4.out) HCa.out.1 (Kd.C_below hCb2.out HB4.out) HCb.out.1 HE.out.2.2.1).mono ?_
    rintro e w5 ⟨rfl, hb⟩
    have HB5 := Aside0.mk (HB4.out.trans (hb.mono HB4.out.size))
    clear hb HB4
    have k0 := (blk_cell (blk_new w5 (.cells #[.int .i64 p1, .int .i64 p2] 34)) 0).trans rfl
    have k1 := (blk_cell (blk_new w5 (.cells #[.int .i64 p1, .int .i64 p2] 34)) 1).trans rfl
    go_wp2_with fail
    refine (pianolalaw10_lowest.calls 200 p1 p2 O L true _ HE.out.2.2.2).mono ?_
    rintro e w6 ⟨rfl, hb⟩
    have HB6 := Aside0.mk (HB5.out.trans ((below_then (below_alloc (Below.refl w5.heap.size w5) _) (by simp) hb).mono HB5.out.size))
    clear hb HB5 k0 k1
    go_wp2_with fail
    refine (works_calls _).mono ?_
    rintro e w7 ⟨rfl, hb⟩
    have HB7 := Aside0.mk (HB6.out.trans (hb.mono HB6.out.size))
    clear hb HB6
    go_wp2
    go_ret
    exact ⟨rfl, HB2.out.trans (HB7.out.mono HB2.out.size)⟩

end Go.Proofs.Ythddeillkdediaa.H
