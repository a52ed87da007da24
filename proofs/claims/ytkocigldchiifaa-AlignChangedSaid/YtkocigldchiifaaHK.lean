/- align.Verify. -/
import Derived.RangeFuncNested
import Derived.RangeFuncBound
import Derived.RangeFuncCalls
import Derived.RangeFuncLeaves
import Derived.RangeFuncBox
import Derived.RangeFuncWrites
import Derived.Shelf.Abstract
import Derived.Shelf.RegionOpen
import Derived.WalkKit
import Derived.OwnWalkIn
import Derived.TacticsInMore
import Derived.LoopNIn
import Derived.LoopIn
import Derived.Maps.AppendAt
import Derived.Carry
import Derived.WalkSmall
import Derived.Test.YtkocigldchiifaaH6
import Derived.Test.YtkocigldchiifaaHC
namespace Go.Proofs.Ytkocigldchiifaa.H
open Go.RowKit Go.Proofs.YtkocigldchiifaaW.PrintWords Go.Proofs.YtkocigldchiifaaW.PrintLast Go.Proofs.YtkocigldchiifaaW.PrintMore
open Go.Shelf Go.Proofs.Ytkocigldchiifaa.QA
attribute [local go_sem] Oper.semAt_some
set_option linter.unusedVariables false
set_option linter.unusedSimpArgs false



def ver11_T : Bool × List (List Nat × List Nat) := (true, [([], []), ([0], [0]), ([1], [1]), ([2], [2]), ([2], [2]), ([4, 2], [2, 4]), ([3, 5, 2], [2, 3, 5]), ([6, 2], [2, 6]), ([2], [2]), ([7, 8, 2, 2], [2, 7, 8]), ([9, 2], [2, 9]), ([2, 10], [2, 10]), ([11, 9], [11])])
def ver11_B : List Nat := [0, 1, 3, 7, 7, 23, 63, 127, 7, 511, 1023, 2047, 4095]
theorem ver11_tab : rtab .any (opsOf Try.f30 11) = ver11_T := by kernel_rfl
theorem ver11_bits : waitsOk ver11_T.2 ver11_B = true := by kernel_rfl

def vfAt (a b : List S59) (h : Int) (l : List S25) (i : Nat) : Int :=
 if hasP a b (rd_T25 l i).f0 (rd_T25 l i).f1 = false then 8 else if 0 < i ∧ preB (rd_T25 l ((i : Int) - 1)) (rd_T25 l i) = false then 13 else if farD (rd_T59 a (rd_T25 l i).f0) (rd_T59 b (rd_T25 l i).f1) ≤ h then 14 else 0
def vfFrom (a b : List S59) (h : Int) (l : List S25) : Nat → Nat → Int
 | 0, _ => 0
 | n + 1, i => if vfAt a b h l i = 0 then vfFrom a b h l n (i + 1) else vfAt a b h l i
def verF (a b : List S59) (h : Int) (l : List S25) : Int :=
 if l.length = 0 then 4 else if vfFrom a b h l l.length 0 = 0 then (if begB a b (rd_T25 l 0).f0 (rd_T25 l 0).f1 = true ∧ endB a b (rd_T25 l ((l.length : Int) - 1)).f0 (rd_T25 l ((l.length : Int) - 1)).f1 = true then 0 else 7) else vfFrom a b h l l.length 0
def align_Verify.f (l0 l1 : List S59) (a2 : Int) (l3 : List S25) : Option Int := (align_Check.f l0 l1).bind fun e => some (if e = 0 then verF l0 l1 a2 l3 else e)
/-- What holds at the head of the loop. -/
structure Vs (a b : List S59) (h : Int) (l : List S25) (i : Nat) (w wr : World) : Prop where
 below : Below w.heap.size w wr
 eq : vfFrom a b h l l.length 0 = vfFrom a b h l (l.length - i) i
 has : ∀ j : Nat, j < i → hasP a b (rd_T25 l j).f0 (rd_T25 l j).f1 = true
theorem Vs.err {a b : List S59} {h : Int} {l : List S25} {i : Nat} {w wr : World} (hs : Vs a b h l i w wr) (hlt : i < l.length) {x : Int} (hx : vfAt a b h l i = x) (hne : x ≠ 0) : vfFrom a b h l l.length 0 = x := by
 rw [hs.eq, show l.length - i = (l.length - (i + 1)) + 1 by omega, vfFrom, hx, if_neg hne]
theorem Vs.next {a b : List S59} {h : Int} {l : List S25} {i : Nat} {w wr w' : World} (hs : Vs a b h l i w wr) (hlt : i < l.length) (hx : vfAt a b h l i = 0) (hp : hasP a b (rd_T25 l i).f0 (rd_T25 l i).f1 = true) (hb : Below wr.heap.size wr w') : Vs a b h l (i + 1) w w' := by
 refine ⟨hs.below.trans (hb.mono hs.below.size), ?_, fun j hj => ?_⟩
 · rw [hs.eq, show l.length - i = (l.length - (i + 1)) + 1 by omega, vfFrom, hx, if_pos rfl]
 · by_cases h1 : j = i
   · rw [h1]; exact hp
   · exact hs.has j (by omega)
set_option maxRecDepth 100000 in
set_option maxHeartbeats 2000000 in
theorem align_Verify.calls (A0 : Option Addr) (c0 : Nat) (l0 : List S59) (A1 : Option Addr) (c1 : Nat) (l1 : List S59) (a2 : Int) (A3 : Option Addr) (c3 : Nat) (l3 : List S25) (r : Int) (w : World) (hr0 : Kd.C k59 w A0 l0.length l0) (hc0 : l0.length ≤ c0) (hr1 : Kd.C k59 w A1 l1.length l1) (hc1 : l1.length ≤ c1) (hr3 : Kd.C k25 w A3 l3.length l3) (hc3 : l3.length ≤ c3) (hl : l3.length ≤ 1000000) (h : align_Verify.f l0 l1 a2 l3 = some r) :
  Calls Try.prog 30 #[.slice A0 l0.length c0, .slice A1 l1.length c1, .int .i64 a2, .slice A3 l3.length c3] w fun e w' => e = .returned (.int .i64 r) ∧ Below w.heap.size w w' := by
 have hu25 := Try.underlying25
 unfold align_Verify.f at h
 obtain ⟨e, he, h⟩ := Option.bind_eq_some_iff.1 h
 have HR0 := Aside0.mk hr0
 have HR1 := Aside0.mk hr1
 have HR3 := Aside0.mk hr3
 have HE := Aside0.mk he
 have HC := Aside0.mk (And.intro hc0 (And.intro hc1 hc3))
 have h1 := Option.some.inj h
 clear h he hr0 hr1 hr3 hc0 hc1 hc3
 by_cases h0 : e = 0
 · subst h0
   rw [if_pos rfl] at h1
   have HO := Aside0.mk (rolls_of HE.out)
   by_cases hn : l3.length = 0
   · unfold verF at h1
     rw [if_pos hn] at h1
     subst h1
     rw [hn]
     go_enter Try.func30, Try.ntmps30
     go_wp2_with fail
     refine (newTable_ok A0 c0 l0 A1 c1 l1 _ HR0.out HC.out.1 HR1.out HC.out.2.1 HE.out).mono ?_
     rintro e w1 ⟨g, rfl, hT, _, hb⟩
     have HB := Aside0.mk hb
     clear hT hb hn
     go_wp2
     go_ret
     exact ⟨rfl, HB.out⟩
   · have hnb : ((l3.length : Int) == 0) = false := beq_eq_false_iff_ne.mpr (by omega)
     have hnp : 0 < l3.length := Nat.pos_of_ne_zero hn
     unfold verF at h1
     rw [if_neg hn] at h1
     have HV := Aside0.mk h1
     clear h1
     go_enter Try.func30, Try.ntmps30
     go_wp2_with fail
     refine (newTable_ok A0 c0 l0 A1 c1 l1 _ HR0.out HC.out.1 HR1.out HC.out.2.1 HE.out).mono ?_
     rintro e w1 ⟨g, rfl, hT, _, hb⟩
     have HT := Aside0.mk hT
     have HB := Aside0.mk hb
     clear hT hb
     go_wp2
     go_loopw [29] (fun s29 wr => ∃ i : Nat, i ≤ l3.length ∧ s29 = .int .i64 i ∧ Aside0 (Vs l0 l1 a2 l3 i w1 wr)) (fun s29 _ => l3.length - (intOf s29).toNat)
     case atStart => exact ⟨0, by omega, rfl, ⟨Below.refl _ _, by simp, fun j hj => absurd hj (Nat.not_lt_zero j)⟩⟩
     case round =>
      obtain ⟨i, hi, rfl, HS⟩ := hrel
      have HTW := Aside0.mk (HT.out.below HS.out.below)
      by_cases hlt : i < l3.length
      · have hdec : decide ((i : Int) < (l3.length : Int)) = true := decide_eq_true (by omega)
        have hC := Kd.C_below (Kd.C_below HR3.out HB.out) (HS.out.below)
        obtain ⟨ad, rfl, x0, x1⟩ := at_T25 hC i (by omega) (by omega)
        have HCC := Aside0.mk hC
        clear hC
        obtain ⟨p, hp⟩ : ∃ p, rd_T25 l3 i = p := ⟨_, rfl⟩
        rw [hp, Int.toNat_natCast] at x0 x1
        have HP := Aside0.mk hp
        have hbb := below_alloc (Below.refl wr.heap.size wr) (.cells #[.int .i64 p.f0, .int .i64 p.f1] 25)
        have hbn := blk_new wr (.cells #[.int .i64 p.f0, .int .i64 p.f1] 25)
        have HBB := Aside0.mk (And.intro hbb hbn)
        have hcall := has_calls g l0 l1 p.f0 p.f1 _ (HTW.out.below hbb)
        generalize hz : hasP l0 l1 p.f0 p.f1 = z at hcall
        have HCALL := Aside0.mk hcall
        have HZ := Aside0.mk hz
        clear hp hbb hbn hcall hz
        cases z with
        | false =>
         go_wp2_with (go_at_call 46; refine HCALL.out.mono ?_; rintro e w2 ⟨rfl, hb2⟩; have HB2 := Aside0.mk hb2; clear hb2)
         go_ret
         have h8 : vfAt l0 l1 a2 l3 i = 8 := by unfold vfAt; rw [HP.out, if_pos HZ.out]
         have hv := HV.out
         rw [HS.out.err hlt h8 (by decide), if_neg (by decide)] at hv
         subst hv
         exact ⟨rfl, HB.out.trans ((HS.out.below.trans ((below_then HBB.out.1 HBB.out.1.size HB2.out).mono HS.out.below.size)).mono HB.out.size)⟩
        | true =>
         have hb13 := HBB.out.1
         by_cases hi0 : 0 < i
         · have hgt : decide ((i : Int) > 0) = true := decide_eq_true (by omega)
           have hgt2 : decide ((0 : Int) < i) = true := decide_eq_true (by omega)
           have e1 : wrap64 ((i : Int) - 1) = (i : Int) - 1 := by unfold wrap64; omega
           have e2 : 0 ≤ (i : Int) - 1 := by omega
           have e4 : (1 : Int) ≤ i := by omega
           have e5 : ((i - 1 : Nat) : Int) = (i : Int) - 1 := by omega
           have e3 : (i : Int) - 1 < (l3.length : Int) := by omega
           obtain ⟨ad2, had, y0, y1⟩ := at_T25 HCC.out ((i - 1 : Nat) : Int) (by omega) (by omega)
           cases had
           obtain ⟨q, hq⟩ : ∃ q, rd_T25 l3 ((i : Int) - 1) = q := ⟨_, rfl⟩
           have hqh : hasP l0 l1 q.f0 q.f1 = true := by
            have := HS.out.has (i - 1) (by omega)
            rw [show ((i - 1 : Nat) : Int) = (i : Int) - 1 by omega, hq] at this
            exact this
           have hqi := (hasP_iff l0 l1 _ _).1 hqh
           have HQI := Aside0.mk (show (0 ≤ q.f0 ∧ q.f0 ≤ 1000000) ∧ (0 ≤ q.f1 ∧ q.f1 ≤ 1000000) from ⟨⟨by omega, by have := HO.out.ha; omega⟩, ⟨by omega, by have := HO.out.hb; omega⟩⟩)
           rw [e5, hq] at y0 y1
           rw [show ((i : Int) - 1).toNat = i - 1 by omega] at y0 y1
           clear e5
           have HY := Aside0.mk (And.intro y0 y1)
           have HQ := Aside0.mk hq
           clear hq hqh hqi y0 y1
           generalize hz2 : preB q p = z2
           have HZ2 := Aside0.mk hz2
           clear hz2
           go_wp2_with (go_at_call 46; refine HCALL.out.mono ?_; rintro e w2 ⟨rfl, hb2⟩; have HX2 := Aside0.mk (blk_below HBB.out.2 hb2); have HW2 := Aside0.mk (below_then HBB.out.1 HBB.out.1.size hb2); clear hb2)
           have hwd : Below wr.heap.size wr w2.drew := below_then HW2.out HW2.out.size (pw_below_drewN (Below.refl _ _) 1)
           have KK := Aside0.mk (And.intro ((blk_cell HX2.out 0).trans rfl : w2.drew.cell? ⟨wr.heap.size, 0, none⟩ = some (.int .i64 p.f0)) (And.intro ((blk_cell HX2.out 1).trans rfl : w2.drew.cell? ⟨wr.heap.size, 1, none⟩ = some (.int .i64 p.f1)) (And.intro (pw_cell_below hwd HY.out.1) (pw_cell_below hwd HY.out.2))))
           have hprec := prec_calls q p w2.drew HQI.out.1 HQI.out.2
           rw [HZ2.out] at hprec
           have HPREC := Aside0.mk hprec
           have HWD := Aside0.mk hwd
           clear hprec hwd x0 x1
           refine start_ (n := 13) (S := fun w' => w'.cell? ⟨wr.heap.size, 0, none⟩ = some (.int .i64 p.f0) ∧ w'.cell? ⟨wr.heap.size, 1, none⟩ = some (.int .i64 p.f1) ∧ w'.cell? (ad.add ((i - 1) * 2)) = some (.int .i64 q.f0) ∧ w'.cell? ⟨(ad.add ((i - 1) * 2)).block, (ad.add ((i - 1) * 2)).off + 1, none⟩ = some (.int .i64 q.f1)) (ds := []) #[false, false, false, false, false, false, false, false, false, false, false, false, false] (by kernel_rfl) rfl rfl KK.out (fun hHeld => ?_)
           refine with_tabW ver11_tab ver11_bits (fun HT_ HW_ => ?_)
           refine take_ (i := 0) (N := some 40) (v := ?_) (a' := ?_) #[true, false, false, false, false, false, false, false, false, false, false, false, false] rfl rfl (take_ofW HT_.out HW_.out (by kernel_rfl)) (fun _ _ _ h => h) (Or.inl ⟨by rfl, ?_⟩) hHeld ?_ ?_
           rotate_left
           · rintro w' ⟨s0, s1, s2, s3⟩
             go_simp
             with_reducible rfl
           rotate_left
           · simp only [Act.put, List.setIfInBounds_toArray, List.set_cons_zero, List.set_cons_succ, i64_w, i32_w]
             rfl
           refine take_ (i := 1) (N := some 41) (v := ?_) (a' := ?_) #[true, true, false, false, false, false, false, false, false, false, false, false, false] rfl rfl (take_ofW HT_.out HW_.out (by kernel_rfl)) (fun _ _ _ h => h) (Or.inl ⟨by rfl, ?_⟩) hHeld ?_ ?_
           rotate_left
           · rintro w' ⟨s0, s1, s2, s3⟩
             go_simp
             with_reducible rfl
           rotate_left
           · simp only [Act.put, List.setIfInBounds_toArray, List.set_cons_zero, List.set_cons_succ, i64_w, i32_w]
             rfl
           refine take_ (i := 2) (N := some 42) (v := ?_) (a' := ?_) #[true, true, true, false, false, false, false, false, false, false, false, false, false] rfl rfl (take_ofW HT_.out HW_.out (by kernel_rfl)) (fun _ _ _ h => h) (Or.inl ⟨by rfl, ?_⟩) hHeld ?_ ?_
           rotate_left
           · rintro w' ⟨s0, s1, s2, s3⟩
             go_simp
             with_reducible rfl
           rotate_left
           · simp only [Act.put, List.setIfInBounds_toArray, List.set_cons_zero, List.set_cons_succ, i64_w, i32_w]
             rfl
           refine take_ (i := 3) (N := some 43) (v := ?_) (a' := ?_) #[true, true, true, true, false, false, false, false, false, false, false, false, false] rfl rfl (take_ofW HT_.out HW_.out (by kernel_rfl)) (fun _ _ _ h => h) (Or.inl ⟨by rfl, ?_⟩) hHeld ?_ ?_
           rotate_left
           · rintro w' ⟨s0, s1, s2, s3⟩
             go_simp
             with_reducible rfl
           rotate_left
           · simp only [Act.put, List.setIfInBounds_toArray, List.set_cons_zero, List.set_cons_succ, i64_w, i32_w]
             rfl
           refine take_ (i := 4) (N := some 44) (v := ?_) (a' := ?_) #[true, true, true, true, true, false, false, false, false, false, false, false, false] rfl rfl (take_ofW HT_.out HW_.out (by kernel_rfl)) (fun _ _ _ h => h) (Or.inl ⟨by rfl, ?_⟩) hHeld ?_ ?_
           rotate_left
           · rintro w' ⟨s0, s1, s2, s3⟩
             go_simp
             with_reducible rfl
           rotate_left
           · simp only [Act.put, List.setIfInBounds_toArray, List.set_cons_zero, List.set_cons_succ, i64_w, i32_w]
             rfl
           refine take_ (i := 5) (N := some 45) (v := ?_) (a' := ?_) #[true, true, true, true, true, true, false, false, false, false, false, false, false] rfl rfl (take_ofW HT_.out HW_.out (by kernel_rfl)) (fun _ _ _ h => h) (Or.inl ⟨by rfl, ?_⟩) hHeld ?_ ?_
           rotate_left
           · rintro w' ⟨s0, s1, s2, s3⟩
             go_simp
             with_reducible rfl
           rotate_left
           · simp only [Act.put, List.setIfInBounds_toArray, List.set_cons_zero, List.set_cons_succ, i64_w, i32_w]
             rfl
           refine take_ (i := 6) (N := some 46) (v := ?_) (a' := ?_) #[true, true, true, true, true, true, true, false, false, false, false, false, false] rfl rfl (take_ofW HT_.out HW_.out (by kernel_rfl)) (fun _ _ _ h => h) (Or.inl ⟨by rfl, ?_⟩) hHeld ?_ ?_
           rotate_left
           · rintro w' ⟨s0, s1, s2, s3⟩
             go_simp
             with_reducible rfl
           rotate_left
           · simp only [Act.put, List.setIfInBounds_toArray, List.set_cons_zero, List.set_cons_succ, i64_w, i32_w]
             rfl
           refine take_ (i := 7) (N := some 47) (v := ?_) (a' := ?_) #[true, true, true, true, true, true, true, true, false, false, false, false, false] rfl rfl (take_ofW HT_.out HW_.out (by kernel_rfl)) (fun _ _ _ h => h) (Or.inl ⟨by rfl, ?_⟩) hHeld ?_ ?_
           rotate_left
           · rintro w' ⟨s0, s1, s2, s3⟩
             go_simp
             with_reducible rfl
           rotate_left
           · simp only [Act.put, List.setIfInBounds_toArray, List.set_cons_zero, List.set_cons_succ, i64_w, i32_w]
             rfl
           refine take_ (i := 8) (N := some 48) (v := ?_) (a' := ?_) #[true, true, true, true, true, true, true, true, true, false, false, false, false] rfl rfl (take_ofW HT_.out HW_.out (by kernel_rfl)) (fun _ _ _ h => h) (Or.inl ⟨by rfl, ?_⟩) hHeld ?_ ?_
           rotate_left
           · rintro w' ⟨s0, s1, s2, s3⟩
             go_simp
             with_reducible rfl
           rotate_left
           · simp only [Act.put, List.setIfInBounds_toArray, List.set_cons_zero, List.set_cons_succ, i64_w, i32_w]
             rfl
           refine one_ (i := 9) (N := some 49) #[true, true, true, true, true, true, true, true, true, true, false, false, false] rfl rfl (one_of HT_.out (by kernel_rfl)) (by decide) (fun K hK => ?_)
           refine goes_ Try.func61 (by kernel_rfl) rfl #[.agg #[.int .i64 q.f0, .int .i64 q.f1], .agg #[.int .i64 p.f0, .int .i64 p.f1]] (by rfl) rfl rfl (by (try simp only [List.map_toArray, List.map_cons, List.map_nil]); first | done | rfl) ?_
           refine (HPREC.out).mono ?_
           rintro e w3 ⟨rfl, hbb⟩
           refine ⟨_, rfl, ?_⟩
           replace KK := Aside0.mk (And.intro (pw_cell_below hbb KK.out.1) (And.intro (pw_cell_below hbb KK.out.2.1) (And.intro (pw_cell_below hbb KK.out.2.2.1) (pw_cell_below hbb KK.out.2.2.2))))
           have HB3 := Aside0.mk hbb
           clear hbb
           refine hK.out _ _ KK.out (fun hHeld => ?_)
           clear hK K
           refine norm_ (a' := ?_) ?_ ?_
           rotate_left
           · show Act.put _ (some 49) _ = _
             simp only [Act.put, List.setIfInBounds_toArray, List.set_cons_zero, List.set_cons_succ, i64_w, i32_w]
             rfl
           refine take_ (i := 10) (N := some 50) (v := ?_) (a' := ?_) #[true, true, true, true, true, true, true, true, true, true, true, false, false] rfl rfl (take_ofW HT_.out HW_.out (by kernel_rfl)) (fun _ _ _ h => h) (Or.inl ⟨by rfl, ?_⟩) hHeld ?_ ?_
           rotate_left
           · rintro w' ⟨s0, s1, s2, s3⟩
             go_simp
             with_reducible rfl
           rotate_left
           · simp only [Act.put, List.setIfInBounds_toArray, List.set_cons_zero, List.set_cons_succ, i64_w, i32_w]
             rfl
           refine take_ (i := 11) (N := some 51) (v := ?_) (a' := ?_) #[true, true, true, true, true, true, true, true, true, true, true, true, false] rfl rfl (take_ofW HT_.out HW_.out (by kernel_rfl)) (fun _ _ _ h => h) (Or.inl ⟨by rfl, ?_⟩) hHeld ?_ ?_
           rotate_left
           · rintro w' ⟨s0, s1, s2, s3⟩
             go_simp
             with_reducible rfl
           rotate_left
           · simp only [Act.put, List.setIfInBounds_toArray, List.set_cons_zero, List.set_cons_succ, i64_w, i32_w]
             rfl
           refine take_ (i := 12) (N := some 39) (v := ?_) (a' := ?_) #[true, true, true, true, true, true, true, true, true, true, true, true, true] rfl rfl (take_ofW HT_.out HW_.out (by kernel_rfl)) (fun _ _ _ h => h) (Or.inl ⟨by rfl, ?_⟩) hHeld ?_ ?_
           rotate_left
           · rintro w' ⟨s0, s1, s2, s3⟩
             go_simp
             with_reducible rfl
           rotate_left
           · simp only [Act.put, List.setIfInBounds_toArray, List.set_cons_zero, List.set_cons_succ, i64_w, i32_w]
             rfl
           refine done_ (done_of HT_.out (by kernel_rfl)) ?_
           have HW3 := Aside0.mk (below_then HWD.out HWD.out.size HB3.out)
           cases z2 with
           | false =>
            go_wp2
            go_ret
            have h13 : vfAt l0 l1 a2 l3 i = 13 := by unfold vfAt; rw [HP.out, HQ.out, if_neg (by rw [HZ.out]; decide), if_pos ⟨hi0, HZ2.out⟩]
            have hv := HV.out
            rw [HS.out.err hlt h13 (by decide), if_neg (by decide)] at hv
            subst hv
            exact ⟨rfl, HB.out.trans ((HS.out.below.trans (HW3.out.mono HS.out.below.size)).mono HB.out.size)⟩
           | true =>
            have hpp := (hasP_iff l0 l1 _ _).1 HZ.out
            have hfar := fun X => far_calls g l0 l1 p.f0 p.f1 X
            by_cases hle : farD (rd_T59 l0 p.f0) (rd_T59 l1 p.f1) ≤ a2
            · have hlb : decide (farD (rd_T59 l0 p.f0) (rd_T59 l1 p.f1) ≤ a2) = true := decide_eq_true hle
              have HLE := Aside0.mk hle
              clear hle
              go_wp2_with (go_at_call 47; refine (far_calls g l0 l1 p.f0 p.f1 _ (HTW.out.below HW3.out) HO.out hpp.1.1 hpp.1.2 hpp.2.1 hpp.2.2).mono ?_; rintro e w4 ⟨rfl, hb4⟩; have HW4 := Aside0.mk (below_then HW3.out HW3.out.size hb4); clear hb4)
              go_ret
              have h14 : vfAt l0 l1 a2 l3 (i) = 14 := by unfold vfAt; rw [HP.out, if_neg (by rw [HZ.out]; decide), if_neg (by rw [HQ.out, HZ2.out]; simp), if_pos HLE.out]
              have hv := HV.out
              rw [HS.out.err hlt h14 (by decide), if_neg (by decide)] at hv
              subst hv
              exact ⟨rfl, HB.out.trans ((HS.out.below.trans (HW4.out.mono HS.out.below.size)).mono HB.out.size)⟩
            · have hlb : decide (farD (rd_T59 l0 p.f0) (rd_T59 l1 p.f1) ≤ a2) = false := decide_eq_false hle
              have HLE := Aside0.mk hle
              clear hle
              go_wp2_with (go_at_call 47; refine (far_calls g l0 l1 p.f0 p.f1 _ (HTW.out.below HW3.out) HO.out hpp.1.1 hpp.1.2 hpp.2.1 hpp.2.2).mono ?_; rintro e w4 ⟨rfl, hb4⟩; have HW4 := Aside0.mk (below_then HW3.out HW3.out.size hb4); clear hb4)
              have h14 : vfAt l0 l1 a2 l3 (i) = 0 := by unfold vfAt; rw [HP.out, if_neg (by rw [HZ.out]; decide), if_neg (by rw [HQ.out, HZ2.out]; simp), if_neg (show ¬ (farD (rd_T59 l0 p.f0) (rd_T59 l1 p.f1) ≤ a2) from by have := HLE.out; omega)]
              refine ⟨⟨i + 1, by omega, by go_num, ⟨HS.out.next hlt h14 (by rw [HP.out]; exact HZ.out) HW4.out⟩⟩, by simp [intOf]; omega⟩
         · have hgt : decide ((i : Int) > 0) = false := decide_eq_false (by omega)
           have hgt2 : decide ((0 : Int) < i) = false := decide_eq_false (by omega)
           go_wp2_with (go_at_call 46; refine HCALL.out.mono ?_; rintro e w2 ⟨rfl, hb2⟩; have HX2 := Aside0.mk (blk_below HBB.out.2 hb2); have HW2 := Aside0.mk (below_then HBB.out.1 HBB.out.1.size hb2); clear hb2)
           have KK := Aside0.mk (And.intro ((blk_cell HX2.out 0).trans rfl : w2.drew.cell? ⟨wr.heap.size, 0, none⟩ = some (.int .i64 p.f0)) ((blk_cell HX2.out 1).trans rfl : w2.drew.cell? ⟨wr.heap.size, 1, none⟩ = some (.int .i64 p.f1)))
           have HW3 := Aside0.mk (show Below wr.heap.size wr w2.drew from below_then HW2.out HW2.out.size (pw_below_drewN (Below.refl _ _) 1))
           clear x0 x1
           refine start_ (n := 13) (S := fun w' => w'.cell? ⟨wr.heap.size, 0, none⟩ = some (.int .i64 p.f0) ∧ w'.cell? ⟨wr.heap.size, 1, none⟩ = some (.int .i64 p.f1)) (ds := []) #[false, false, false, false, false, false, false, false, false, false, false, false, false] (by kernel_rfl) rfl rfl KK.out (fun hHeld => ?_)
           refine with_tabW ver11_tab ver11_bits (fun HT_ HW_ => ?_)
           refine take_ (i := 0) (N := some 40) (v := ?_) (a' := ?_) #[true, false, false, false, false, false, false, false, false, false, false, false, false] rfl rfl (take_ofW HT_.out HW_.out (by kernel_rfl)) (fun _ _ _ h => h) (Or.inl ⟨by rfl, ?_⟩) hHeld ?_ ?_
           rotate_left
           · rintro w' ⟨s0, s1⟩
             go_simp
             with_reducible rfl
           rotate_left
           · simp only [Act.put, List.setIfInBounds_toArray, List.set_cons_zero, List.set_cons_succ, i64_w, i32_w]
             rfl
           refine take_ (i := 1) (N := some 41) (v := ?_) (a' := ?_) #[true, true, false, false, false, false, false, false, false, false, false, false, false] rfl rfl (take_ofW HT_.out HW_.out (by kernel_rfl)) (fun _ _ _ h => h) (Or.inl ⟨by rfl, ?_⟩) hHeld ?_ ?_
           rotate_left
           · rintro w' ⟨s0, s1⟩
             go_simp
             with_reducible rfl
           rotate_left
           · simp only [Act.put, List.setIfInBounds_toArray, List.set_cons_zero, List.set_cons_succ, i64_w, i32_w]
             rfl
           refine take_ (i := 2) (N := some 42) (v := ?_) (a' := ?_) #[true, true, true, false, false, false, false, false, false, false, false, false, false] rfl rfl (take_ofW HT_.out HW_.out (by kernel_rfl)) (fun _ _ _ h => h) (Or.inl ⟨by rfl, ?_⟩) hHeld ?_ ?_
           rotate_left
           · rintro w' ⟨s0, s1⟩
             go_simp
             with_reducible rfl
           rotate_left
           · simp only [Act.put, List.setIfInBounds_toArray, List.set_cons_zero, List.set_cons_succ, i64_w, i32_w]
             rfl
           refine take_ (i := 3) (N := some 43) (v := undef) (a' := ?_) #[true, true, true, true, false, false, false, false, false, false, false, false, false] rfl rfl (take_ofW HT_.out HW_.out (by kernel_rfl)) (fun _ _ _ h => h) (Or.inr ⟨by rfl, rfl⟩) hHeld ?_ ?_
           rotate_left
           · simp only [Act.put, List.setIfInBounds_toArray, List.set_cons_zero, List.set_cons_succ, i64_w, i32_w]
             rfl
           refine take_ (i := 4) (N := some 44) (v := undef) (a' := ?_) #[true, true, true, true, true, false, false, false, false, false, false, false, false] rfl rfl (take_ofW HT_.out HW_.out (by kernel_rfl)) (fun _ _ _ h => h) (Or.inr ⟨by rfl, rfl⟩) hHeld ?_ ?_
           rotate_left
           · simp only [Act.put, List.setIfInBounds_toArray, List.set_cons_zero, List.set_cons_succ, i64_w, i32_w]
             rfl
           refine take_ (i := 5) (N := some 45) (v := undef) (a' := ?_) #[true, true, true, true, true, true, false, false, false, false, false, false, false] rfl rfl (take_ofW HT_.out HW_.out (by kernel_rfl)) (fun _ _ _ h => h) (Or.inr ⟨by rfl, rfl⟩) hHeld ?_ ?_
           rotate_left
           · simp only [Act.put, List.setIfInBounds_toArray, List.set_cons_zero, List.set_cons_succ, i64_w, i32_w]
             rfl
           refine take_ (i := 6) (N := some 46) (v := undef) (a' := ?_) #[true, true, true, true, true, true, true, false, false, false, false, false, false] rfl rfl (take_ofW HT_.out HW_.out (by kernel_rfl)) (fun _ _ _ h => h) (Or.inr ⟨by rfl, rfl⟩) hHeld ?_ ?_
           rotate_left
           · simp only [Act.put, List.setIfInBounds_toArray, List.set_cons_zero, List.set_cons_succ, i64_w, i32_w]
             rfl
           refine take_ (i := 7) (N := some 47) (v := undef) (a' := ?_) #[true, true, true, true, true, true, true, true, false, false, false, false, false] rfl rfl (take_ofW HT_.out HW_.out (by kernel_rfl)) (fun _ _ _ h => h) (Or.inr ⟨by rfl, rfl⟩) hHeld ?_ ?_
           rotate_left
           · simp only [Act.put, List.setIfInBounds_toArray, List.set_cons_zero, List.set_cons_succ, i64_w, i32_w]
             rfl
           refine take_ (i := 8) (N := some 48) (v := undef) (a' := ?_) #[true, true, true, true, true, true, true, true, true, false, false, false, false] rfl rfl (take_ofW HT_.out HW_.out (by kernel_rfl)) (fun _ _ _ h => h) (Or.inr ⟨by rfl, rfl⟩) hHeld ?_ ?_
           rotate_left
           · simp only [Act.put, List.setIfInBounds_toArray, List.set_cons_zero, List.set_cons_succ, i64_w, i32_w]
             rfl
           refine take_ (i := 9) (N := some 49) (v := undef) (a' := ?_) #[true, true, true, true, true, true, true, true, true, true, false, false, false] rfl rfl (take_ofW HT_.out HW_.out (by kernel_rfl)) (fun _ _ _ h => h) (Or.inr ⟨by rfl, rfl⟩) hHeld ?_ ?_
           rotate_left
           · simp only [Act.put, List.setIfInBounds_toArray, List.set_cons_zero, List.set_cons_succ, i64_w, i32_w]
             rfl
           refine take_ (i := 10) (N := some 50) (v := undef) (a' := ?_) #[true, true, true, true, true, true, true, true, true, true, true, false, false] rfl rfl (take_ofW HT_.out HW_.out (by kernel_rfl)) (fun _ _ _ h => h) (Or.inr ⟨by rfl, rfl⟩) hHeld ?_ ?_
           rotate_left
           · simp only [Act.put, List.setIfInBounds_toArray, List.set_cons_zero, List.set_cons_succ, i64_w, i32_w]
             rfl
           refine take_ (i := 11) (N := some 51) (v := ?_) (a' := ?_) #[true, true, true, true, true, true, true, true, true, true, true, true, false] rfl rfl (take_ofW HT_.out HW_.out (by kernel_rfl)) (fun _ _ _ h => h) (Or.inl ⟨by rfl, ?_⟩) hHeld ?_ ?_
           rotate_left
           · rintro w' ⟨s0, s1⟩
             go_simp
             with_reducible rfl
           rotate_left
           · simp only [Act.put, List.setIfInBounds_toArray, List.set_cons_zero, List.set_cons_succ, i64_w, i32_w]
             rfl
           refine take_ (i := 12) (N := some 39) (v := ?_) (a' := ?_) #[true, true, true, true, true, true, true, true, true, true, true, true, true] rfl rfl (take_ofW HT_.out HW_.out (by kernel_rfl)) (fun _ _ _ h => h) (Or.inl ⟨by rfl, ?_⟩) hHeld ?_ ?_
           rotate_left
           · rintro w' ⟨s0, s1⟩
             go_simp
             with_reducible rfl
           rotate_left
           · simp only [Act.put, List.setIfInBounds_toArray, List.set_cons_zero, List.set_cons_succ, i64_w, i32_w]
             rfl
           refine done_ (done_of HT_.out (by kernel_rfl)) ?_
           have hpp := (hasP_iff l0 l1 _ _).1 HZ.out
           have hfar := fun X => far_calls g l0 l1 p.f0 p.f1 X
           by_cases hle : farD (rd_T59 l0 p.f0) (rd_T59 l1 p.f1) ≤ a2
           · have hlb : decide (farD (rd_T59 l0 p.f0) (rd_T59 l1 p.f1) ≤ a2) = true := decide_eq_true hle
             have HLE := Aside0.mk hle
             clear hle
             go_wp2_with (go_at_call 47; refine (far_calls g l0 l1 p.f0 p.f1 _ (HTW.out.below HW3.out) HO.out hpp.1.1 hpp.1.2 hpp.2.1 hpp.2.2).mono ?_; rintro e w4 ⟨rfl, hb4⟩; have HW4 := Aside0.mk (below_then HW3.out HW3.out.size hb4); clear hb4)
             go_ret
             have h14 : vfAt l0 l1 a2 l3 (i) = 14 := by unfold vfAt; rw [HP.out, if_neg (by rw [HZ.out]; decide), if_neg (fun h => hi0 h.1), if_pos HLE.out]
             have hv := HV.out
             rw [HS.out.err hlt h14 (by decide), if_neg (by decide)] at hv
             subst hv
             exact ⟨rfl, HB.out.trans ((HS.out.below.trans (HW4.out.mono HS.out.below.size)).mono HB.out.size)⟩
           · have hlb : decide (farD (rd_T59 l0 p.f0) (rd_T59 l1 p.f1) ≤ a2) = false := decide_eq_false hle
             have HLE := Aside0.mk hle
             clear hle
             go_wp2_with (go_at_call 47; refine (far_calls g l0 l1 p.f0 p.f1 _ (HTW.out.below HW3.out) HO.out hpp.1.1 hpp.1.2 hpp.2.1 hpp.2.2).mono ?_; rintro e w4 ⟨rfl, hb4⟩; have HW4 := Aside0.mk (below_then HW3.out HW3.out.size hb4); clear hb4)
             have h14 : vfAt l0 l1 a2 l3 (i) = 0 := by unfold vfAt; rw [HP.out, if_neg (by rw [HZ.out]; decide), if_neg (fun h => hi0 h.1), if_neg (show ¬ (farD (rd_T59 l0 p.f0) (rd_T59 l1 p.f1) ≤ a2) from by have := HLE.out; omega)]
             refine ⟨⟨i + 1, by omega, by go_num, ⟨HS.out.next hlt h14 (by rw [HP.out]; exact HZ.out) HW4.out⟩⟩, by simp [intOf]; omega⟩
      · have hdec : decide ((i : Int) < (l3.length : Int)) = false := decide_eq_false (by omega)
        obtain rfl : i = l3.length := by omega
        have hv := HV.out
        rw [HS.out.eq, Nat.sub_self, vfFrom, if_pos rfl] at hv
        have HV2 := Aside0.mk hv
        clear hv
        have hC := Kd.C_below (Kd.C_below HR3.out HB.out) (HS.out.below)
        obtain ⟨ad, rfl, x0, x1⟩ := at_T25 hC ((0 : Nat) : Int) (by omega) (by omega)
        obtain ⟨ad2, had, y0, y1⟩ := at_T25 hC ((l3.length - 1 : Nat) : Int) (by omega) (by omega)
        cases had
        have e5 : ((l3.length - 1 : Nat) : Int) = (l3.length : Int) - 1 := by omega
        have e1 : wrap64 ((l3.length : Int) - 1) = (l3.length : Int) - 1 := by unfold wrap64; omega
        have e2 : 0 ≤ (l3.length : Int) - 1 := by omega
        have e4 : (1 : Int) ≤ l3.length := by omega
        have e6 : 0 < (l3.length : Int) := by omega
        rw [Int.toNat_natCast] at x0 x1
        rw [e5, show ((l3.length : Int) - 1).toNat = l3.length - 1 by omega] at y0 y1
        clear e5
        have HY := Aside0.mk (And.intro y0 y1)
        clear y0 y1
        have hz0 : (rd_T25 l3 ((0 : Nat) : Int)) = rd_T25 l3 0 := rfl
        rw [hz0, Nat.zero_mul, Addr.add_zero'] at x0 x1
        generalize hp : rd_T25 l3 0 = p at x0 x1 HV2
        generalize hq : rd_T25 l3 ((l3.length : Int) - 1) = q at HY HV2
        clear hp hq hz0
        generalize hzb : begB l0 l1 p.f0 p.f1 = zb at HV2
        generalize hze : endB l0 l1 q.f0 q.f1 = ze at HV2
        have HZB := Aside0.mk hzb
        have HZE := Aside0.mk hze
        clear hzb hze
        cases zb with
        | false =>
         go_wp2_with (go_at_call 56; refine (begins_calls g l0 l1 _ _ _ HTW.out).mono ?_; rintro e w2 ⟨rfl, hb2⟩; rw [HZB.out]; have HB2 := Aside0.mk hb2; clear hb2)
         go_ret
         have hv := HV2.out
         rw [if_neg (by simp)] at hv
         subst hv
         exact ⟨rfl, HB.out.trans ((HS.out.below.trans (HB2.out.mono HS.out.below.size)).mono HB.out.size)⟩
        | true =>
         cases ze with
         | false =>
          go_wp2_with (first | (go_at_call 56; refine (begins_calls g l0 l1 _ _ _ HTW.out).mono ?_; rintro e w2 ⟨rfl, hb2⟩; rw [HZB.out]; have HB2 := Aside0.mk hb2; have y0 := pw_cell_below hb2 HY.out.1; have y1 := pw_cell_below hb2 HY.out.2; have HT2 := Aside0.mk (HTW.out.below hb2); clear hb2) | (go_at_call 59; refine (ends_calls g l0 l1 _ _ _ HT2.out).mono ?_; rintro e w3 ⟨rfl, hb3⟩; rw [HZE.out]; have HB3 := Aside0.mk (below_then HB2.out HB2.out.size hb3); clear hb3))
          go_ret
          have hv := HV2.out
          rw [if_neg (by simp)] at hv
          subst hv
          exact ⟨rfl, HB.out.trans ((HS.out.below.trans (HB3.out.mono HS.out.below.size)).mono HB.out.size)⟩
         | true =>
          go_wp2_with (first | (go_at_call 56; refine (begins_calls g l0 l1 _ _ _ HTW.out).mono ?_; rintro e w2 ⟨rfl, hb2⟩; rw [HZB.out]; have HB2 := Aside0.mk hb2; have y0 := pw_cell_below hb2 HY.out.1; have y1 := pw_cell_below hb2 HY.out.2; have HT2 := Aside0.mk (HTW.out.below hb2); clear hb2) | (go_at_call 59; refine (ends_calls g l0 l1 _ _ _ HT2.out).mono ?_; rintro e w3 ⟨rfl, hb3⟩; rw [HZE.out]; have HB3 := Aside0.mk (below_then HB2.out HB2.out.size hb3); clear hb3))
          go_ret
          have hv := HV2.out
          rw [if_pos (by simp)] at hv
          subst hv
          exact ⟨rfl, HB.out.trans ((HS.out.below.trans (HB3.out.mono HS.out.below.size)).mono HB.out.size)⟩
 · rw [if_neg h0] at h1
   subst h1
   have hb0 : (e != 0) = true := by simp [h0]
   have H0 := Aside0.mk h0
   clear h0
   go_enter Try.func30, Try.ntmps30
   go_wp2_with fail
   refine (newTable_no A0 c0 l0 A1 c1 l1 e _ HR0.out HC.out.1 HR1.out HC.out.2.1 HE.out H0.out).mono ?_
   rintro e w1 ⟨rfl, hb⟩
   have HB := Aside0.mk hb
   clear hb
   go_wp2
   go_ret
   exact ⟨rfl, HB.out⟩

end Go.Proofs.Ytkocigldchiifaa.H
