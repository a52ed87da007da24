/- Texts U3 of this chapter, one behind the other. -/
import Derived.Test.YtkocigldchiifaaXF
import Derived.Test.YtkocigldchiifaaXH
import Derived.Test.YtkocigldchiifaaXJ

/- pianolalaw07.AlignKnown. -/
namespace Go.Proofs.Ytkocigldchiifaa.H
open Go.RowKit Go.Proofs.YtkocigldchiifaaW.PrintWords Go.Proofs.YtkocigldchiifaaW.PrintLast Go.Proofs.YtkocigldchiifaaW.PrintMore
open Go.Shelf Go.Proofs.Ytkocigldchiifaa.QA
set_option linter.unusedVariables false
set_option linter.unusedSimpArgs false

theorem C_prefix {w : World} {A : Option Addr} {n : Nat} {x : S59} (h : Kd.C k59 w A n (List.replicate n x)) (k : Nat) (hk : k ≤ n) : Kd.C k59 w A k (List.replicate k x) := by
 have h1 := Kd.C_take (xs := List.replicate n x) (m := k) (by rw [List.length_replicate]; exact h) (by rw [List.length_replicate]; exact hk)
 rw [List.take_replicate, Nat.min_eq_left hk, List.length_replicate] at h1
 exact h1
def kn8_T : Bool × List (List Nat × List Nat) := (true, [([], []), ([0], [0]), ([], []), ([2], [2]), ([1, 3], [1, 3]), ([4], [4]), ([5], [5]), ([5], [5]), ([6, 4, 0, 1, 2, 3, 4, 5, 6], [6]), ([7, 8, 0, 1, 2, 3, 4, 5, 6, 7, 8], [7])])
def kn8_B : List Nat := [0, 1, 0, 4, 15, 31, 63, 63, 127, 511]
theorem kn8_tab : rtab .any (opsOf Try.f13 8) = kn8_T := by kernel_rfl
theorem kn8_bits : waitsOk kn8_T.2 kn8_B = true := by kernel_rfl
set_option maxRecDepth 100000 in
set_option maxHeartbeats 4000000 in
theorem alignKnown_calls (w : World) : Calls Try.prog 13 #[] w fun e w' => e = .returned (.bool true) ∧ Below w.heap.size w w' := by
 have hu59 := Try.underlying59
 have hu25 := Try.underlying25
 go_enter Try.func13, Try.ntmps13
 go_wp2
 go_loopw [1, 2] (fun s0 s1 wr => ∃ i : Nat, i ≤ 30 ∧ s1 = .int .i64 i ∧ Aside0 (OwnE wr w.heap.size s0 (List.replicate i e5)) ∧ Aside0 (Below w.heap.size w wr)) (fun _ s1 _ => 30 - (intOf s1).toNat)
 case atStart => exact ⟨0, by omega, rfl, ⟨⟨rfl, .inl ⟨rfl, rfl⟩⟩⟩, ⟨Below.refl _ _⟩⟩
 case round =>
  obtain ⟨i, hi, rfl, HO, HB⟩ := hrel
  by_cases hlt : i < 30
  · have hd : decide ((i : Int) < 30) = true := decide_eq_true (by omega)
    have HJ := Aside0.mk hlt
    go_wp2_with (at_builtin; refine Aside0.out ?_)
    refine ⟨?_⟩
    have hb3 := below_alloc (Below.refl wr.heap.size wr) (.cells #[.int .i64 5, .int .i64 0, .int .i64 0] 59)
    refine wpList_append_E rfl _ _ rfl w.heap.size _ (List.replicate i e5) [e5] rfl (HO.out.below hb3) ⟨wr.heap.size, 0, none⟩ 1 1 rfl rfl (fun k u hu => by simpa using World.news_of_block (cs := #[.int .i64 5, .int .i64 0, .int .i64 0]) (t := 59) (fr := (0, 0)) (heap_alloc_new wr (.cells #[.int .i64 5, .int .i64 0, .int .i64 0] 59)) k u (by simpa [cellsE, e5] using hu)) (by rw [List.length_replicate]; have := HJ.out; omega) (Nat.le_trans HB.out.size hb3.size) ?_
    intro v4 w4 hO4 hb4 hg4
    go_wp2
    rw [← List.replicate_succ'] at hO4
    have hb5 : Below w.heap.size w w4 := (HB.out.trans (hb3.mono HB.out.size)).trans hb4
    clear hd
    (try rw [w64' ((i : Int) + 1) (by omega) (by omega)])
    refine ⟨⟨i + 1, hlt, rfl, ⟨hO4⟩, ⟨hb5⟩⟩, ?_⟩
    show 30 - (((i + 1 : Nat) : Int)).toNat < 30 - ((i : Int)).toNat
    omega
  · have hd : decide ((i : Int) < 30) = false := decide_eq_false (by omega)
    obtain rfl : i = 30 := by omega
    rename World => w9
    clear hlt hi
    obtain ⟨_, hform⟩ := HO.out
    rcases hform with ⟨_, h0⟩ | ⟨g, cg, cur, hv, _, _, hcap, _⟩
    · exact absurd h0 (by simp)
    obtain ⟨A9, c9, hv2, _, hC9⟩ := HO.out.reads
    rw [List.length_replicate] at hv hv2 hC9 hcap
    rw [hv] at hv2
    injection hv2 with e1 e2 e3
    subst e1
    have HCL := Aside0.mk hC9
    have HCAP := Aside0.mk hcap
    subst hv
    clear hC9 hcap HO e2 e3
    go_wp2_with fail
    refine (pianolalaw07_A.calls exA _ rfl).mono ?_
    rintro e w10 ⟨v, rfl, hR, hb⟩
    have hbb := hb; clear hb
    have HB' := Aside0.mk (below_then HB.out HB.out.size hbb); clear HB; have HB := HB'; clear HB'
    have HCL' := Aside0.mk (Kd.C_below HCL.out hbb); clear HCL; have HCL := HCL'; clear HCL'
    clear hbb
    obtain ⟨Aa, ca, rfl, hca, hCa⟩ := Kd.R_reads hR
    clear hR
    have HCa := Aside0.mk hCa; clear hCa
    go_wp2_with fail
    refine (pianolalaw07_B.calls exB _ rfl).mono ?_
    rintro e w11 ⟨v, rfl, hR, hb⟩
    have hbb := hb; clear hb
    have HB' := Aside0.mk (below_then HB.out HB.out.size hbb); clear HB; have HB := HB'; clear HB'
    have HCL' := Aside0.mk (Kd.C_below HCL.out hbb); clear HCL; have HCL := HCL'; clear HCL'
    have HCa' := Aside0.mk (Kd.C_below HCa.out hbb); clear HCa; have HCa := HCa'; clear HCa'
    clear hbb
    obtain ⟨Ab, cb, rfl, hcb, hCb⟩ := Kd.R_reads hR
    clear hR
    have HCb := Aside0.mk hCb; clear hCb
    go_wp2_with fail
    refine (pianolalaw07_at.calls 20 _ 8 [0, 0, 1, 1, 2, 2, 2, 3] exW _ (C_lit _ _ [0, 0, 1, 1, 2, 2, 2, 3] rfl rfl (by decide)) (Nat.le_refl _) (by decide +kernel)).mono ?_
    rintro e w12 ⟨v, rfl, hR, hb⟩
    have hbb := below_then (below_alloc (Below.refl w11.heap.size w11) _) (by simp) hb; clear hb
    have HB' := Aside0.mk (below_then HB.out HB.out.size hbb); clear HB; have HB := HB'; clear HB'
    have HCL' := Aside0.mk (Kd.C_below HCL.out hbb); clear HCL; have HCL := HCL'; clear HCL'
    have HCa' := Aside0.mk (Kd.C_below HCa.out hbb); clear HCa; have HCa := HCa'; clear HCa'
    have HCb' := Aside0.mk (Kd.C_below HCb.out hbb); clear HCb; have HCb := HCb'; clear HCb'
    clear hbb
    obtain ⟨Ap, cp, rfl, hcp, hCp⟩ := Kd.R_reads hR
    clear hR
    have HCp := Aside0.mk hCp; clear hCp
    go_wp2_with fail
    refine (align_Height.calls Aa ca exA Ab cb exB Ap cp exW 1000000 0 _ HCa.out hca HCb.out hcb HCp.out hcp (by decide) heightEx).mono ?_
    rintro e w13 ⟨rfl, hb⟩
    have hbb := hb; clear hb
    have HB' := Aside0.mk (below_then HB.out HB.out.size hbb); clear HB; have HB := HB'; clear HB'
    have HCL' := Aside0.mk (Kd.C_below HCL.out hbb); clear HCL; have HCL := HCL'; clear HCL'
    have HCa' := Aside0.mk (Kd.C_below HCa.out hbb); clear HCa; have HCa := HCa'; clear HCa'
    have HCb' := Aside0.mk (Kd.C_below HCb.out hbb); clear HCb; have HCb := HCb'; clear HCb'
    have HCp' := Aside0.mk (Kd.C_below HCp.out hbb); clear HCp; have HCp := HCp'; clear HCp'
    clear hbb
    clear HCa HCb HCp hca hcb hcp
    go_wp2_with fail
    refine (align_Walks.calls (some ⟨g, 0, none⟩) cg (List.replicate 30 e5) (some ⟨g, 0, none⟩) cg (List.replicate 30 e5) 0 4503599627370496 0 _ HCL.out (by simpa using HCAP.out) HCL.out (by simpa using HCAP.out) walks30).mono ?_
    rintro e w14 ⟨rfl, hb⟩
    have hbb := hb; clear hb
    have HB' := Aside0.mk (below_then HB.out HB.out.size hbb); clear HB; have HB := HB'; clear HB'
    have HCL' := Aside0.mk (Kd.C_below HCL.out hbb); clear HCL; have HCL := HCL'; clear HCL'
    clear hbb
    go_upto_region 8 with fail
    have HBB := Aside0.mk (below_drew1 HB.out)
    have hCL := Kd.C_below HCL.out (below_drew (Below.refl w14.heap.size w14))
    have h10 := C_prefix hCL 10 (by omega)
    have h2 := C_prefix hCL 2 (by omega)
    have HC10 := Aside0.mk h10
    have HC2 := Aside0.mk h2
    clear hCL h10 h2
    have hc10 : (10 : Int) ≤ (cg : Int) := by have := HCAP.out; omega
    have hc2 : (2 : Int) ≤ (cg : Int) := by have := HCAP.out; omega
    refine start_ (n := 10) (S := fun _ => True) (ds := []) #[false, false, false, false, false, false, false, false, false, false] (by kernel_rfl) rfl rfl trivial (fun hHeld => ?_)
    refine with_tabW kn8_tab kn8_bits (fun HT_ HW_ => ?_)
    generalize w14.drew = wB at HBB HC10 HC2 hHeld ⊢
    refine take_ (i := 0) (N := some 32) (v := ?_) (a' := ?_) #[true, false, false, false, false, false, false, false, false, false] rfl rfl (take_ofW HT_.out HW_.out (by kernel_rfl)) (fun _ _ _ h => h) (Or.inl ⟨by rfl, ?_⟩) hHeld ?_ ?_
    rotate_left
    · rintro w' _
      go_simp
      with_reducible rfl
    rotate_left
    · simp only [Act.put, List.setIfInBounds_toArray, List.set_cons_zero, List.set_cons_succ, i64_w, i32_w]
      rfl
    refine take_ (i := 1) (N := some 33) (v := ?_) (a' := ?_) #[true, true, false, false, false, false, false, false, false, false] rfl rfl (take_ofW HT_.out HW_.out (by kernel_rfl)) (fun _ _ _ h => h) (Or.inl ⟨by rfl, ?_⟩) hHeld ?_ ?_
    rotate_left
    · rintro w' _
      go_simp
      with_reducible rfl
    rotate_left
    · simp only [Act.put, List.setIfInBounds_toArray, List.set_cons_zero, List.set_cons_succ, i64_w, i32_w]
      rfl
    refine take_ (i := 2) (N := some 34) (v := ?_) (a' := ?_) #[true, true, true, false, false, false, false, false, false, false] rfl rfl (take_ofW HT_.out HW_.out (by kernel_rfl)) (fun _ _ _ h => h) (Or.inl ⟨by rfl, ?_⟩) hHeld ?_ ?_
    rotate_left
    · rintro w' _
      go_simp
      with_reducible rfl
    rotate_left
    · simp only [Act.put, List.setIfInBounds_toArray, List.set_cons_zero, List.set_cons_succ, i64_w, i32_w]
      rfl
    refine take_ (i := 3) (N := some 35) (v := ?_) (a' := ?_) #[true, true, true, true, false, false, false, false, false, false] rfl rfl (take_ofW HT_.out HW_.out (by kernel_rfl)) (fun _ _ _ h => h) (Or.inl ⟨by rfl, ?_⟩) hHeld ?_ ?_
    rotate_left
    · rintro w' _
      go_simp
      with_reducible rfl
    rotate_left
    · simp only [Act.put, List.setIfInBounds_toArray, List.set_cons_zero, List.set_cons_succ, i64_w, i32_w]
      rfl
    refine one_ (i := 4) (N := some 36) #[true, true, true, true, true, false, false, false, false, false] rfl rfl (one_of HT_.out (by kernel_rfl)) (by decide) (fun K hK => ?_)
    refine goes_ Try.func32 (by kernel_rfl) rfl #[.slice (some ⟨g, 0, none⟩) 10 cg, .slice (some ⟨g, 0, none⟩) 2 cg, .int .i64 0] (by rfl) rfl rfl (by (try simp only [List.map_toArray, List.map_cons, List.map_nil]); first | done | rfl) ?_
    refine (align_Walks.calls (some ⟨g, 0, none⟩) cg (List.replicate 10 e5) (some ⟨g, 0, none⟩) cg (List.replicate 2 e5) 0 19 0 wB HC10.out (by have := HCAP.out; simp; omega) HC2.out (by have := HCAP.out; simp; omega) walks19).mono ?_
    rintro e wC ⟨rfl, hb5⟩
    refine ⟨_, rfl, ?_⟩
    have HBC := Aside0.mk (below_then HBB.out HBB.out.size hb5)
    clear hb5
    refine hK.out _ _ trivial (fun hHeld => ?_)
    clear hK K
    refine norm_ (a' := ?_) ?_ ?_
    rotate_left
    · show Act.put _ (some 36) _ = _
      simp only [Act.put, List.setIfInBounds_toArray, List.set_cons_zero, List.set_cons_succ, i64_w, i32_w]
      rfl
    refine take_ (i := 5) (N := some 31) (v := ?_) (a' := ?_) #[true, true, true, true, true, true, false, false, false, false] rfl rfl (take_ofW HT_.out HW_.out (by kernel_rfl)) (fun _ _ _ h => h) (Or.inl ⟨by rfl, ?_⟩) hHeld ?_ ?_
    rotate_left
    · rintro w' _
      go_simp
      with_reducible rfl
    rotate_left
    · simp only [Act.put, List.setIfInBounds_toArray, List.set_cons_zero, List.set_cons_succ, i64_w, i32_w]
      rfl
    refine take_ (i := 6) (N := some 37) (v := ?_) (a' := ?_) #[true, true, true, true, true, true, true, false, false, false] rfl rfl (take_ofW HT_.out HW_.out (by kernel_rfl)) (fun _ _ _ h => h) (Or.inl ⟨by rfl, ?_⟩) hHeld ?_ ?_
    rotate_left
    · rintro w' _
      go_simp
      with_reducible rfl
    rotate_left
    · simp only [Act.put, List.setIfInBounds_toArray, List.set_cons_zero, List.set_cons_succ, i64_w, i32_w]
      rfl
    refine take_ (i := 7) (N := some 38) (v := ?_) (a' := ?_) #[true, true, true, true, true, true, true, true, false, false] rfl rfl (take_ofW HT_.out HW_.out (by kernel_rfl)) (fun _ _ _ h => h) (Or.inl ⟨by rfl, ?_⟩) hHeld ?_ ?_
    rotate_left
    · rintro w' _
      go_simp
      with_reducible rfl
    rotate_left
    · simp only [Act.put, List.setIfInBounds_toArray, List.set_cons_zero, List.set_cons_succ, i64_w, i32_w]
      rfl
    refine take_ (i := 8) (N := some 7) (v := ?_) (a' := ?_) #[true, true, true, true, true, true, true, true, true, false] rfl rfl (take_ofW HT_.out HW_.out (by kernel_rfl)) (fun _ _ _ h => h) (Or.inl ⟨by rfl, ?_⟩) hHeld ?_ ?_
    rotate_left
    · rintro w' _
      go_simp
      with_reducible rfl
    rotate_left
    · simp only [Act.put, List.setIfInBounds_toArray, List.set_cons_zero, List.set_cons_succ, i64_w, i32_w]
      rfl
    refine take_ (i := 9) (N := some 8) (v := ?_) (a' := ?_) #[true, true, true, true, true, true, true, true, true, true] rfl rfl (take_ofW HT_.out HW_.out (by kernel_rfl)) (fun _ _ _ h => h) (Or.inl ⟨by rfl, ?_⟩) hHeld ?_ ?_
    rotate_left
    · rintro w' _
      go_simp
      with_reducible rfl
    rotate_left
    · simp only [Act.put, List.setIfInBounds_toArray, List.set_cons_zero, List.set_cons_succ, i64_w, i32_w]
      rfl
    refine done_ (done_of HT_.out (by kernel_rfl)) ?_
    clear HB
    have HB := HBC
    go_wp2_with fail
    refine (works_calls _).mono ?_
    rintro e w21 ⟨rfl, hb⟩
    have hbb := hb; clear hb
    have HB' := Aside0.mk (below_then HB.out HB.out.size hbb); clear HB; have HB := HB'; clear HB'
    clear hbb
    go_wp2
    go_ret
    exact ⟨rfl, HB.out⟩

end Go.Proofs.Ytkocigldchiifaa.H
