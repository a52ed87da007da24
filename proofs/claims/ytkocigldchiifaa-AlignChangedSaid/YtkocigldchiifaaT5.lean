/- pianolalaw07.AlignChanged. -/
import Derived.Test.YtkocigldchiifaaT4
import Derived.Test.YtkocigldchiifaaP6
import Derived.Test.YtkocigldchiifaaHL
import Derived.Test.YtkocigldchiifaaH7
namespace Go.Proofs.Ytkocigldchiifaa.H
open Go.RowKit Go.Proofs.YtkocigldchiifaaW.PrintWords Go.Proofs.YtkocigldchiifaaW.PrintLast Go.Proofs.YtkocigldchiifaaW.PrintMore
open Go.Shelf Go.Proofs.Ytkocigldchiifaa.QA
set_option linter.unusedVariables false
set_option linter.unusedSimpArgs false

theorem ownE_some {W : World} {base : Nat} {v : Value} {xs : List S59} (h : OwnE W base v xs) (hx : xs ≠ []) : ∃ g cap, v = .slice (some ⟨g, 0, none⟩) xs.length cap ∧ base ≤ g ∧ g < W.heap.size ∧ xs.length ≤ cap := by
 rcases h.2 with ⟨_, h0⟩ | ⟨g, cap, cur, h3, h4, h5, h6, _⟩
 · exact absurd (List.eq_nil_of_length_eq_zero h0) hx
 · exact ⟨g, cap, h3, h4, (Array.getElem?_eq_some_iff.1 h5).1, h6⟩
theorem OwnE.cell1 {W : World} {base g cap n : Nat} {xs : List S59} (h : OwnE W base (.slice (some ⟨g, 0, none⟩) n cap) xs) (j : Nat) (hj : j < xs.length) : W.cell? ⟨g, j * 3 + 1, none⟩ = some (.int .i64 (rd_T59 xs j).f1) ∧ W.frozen? ⟨g, j * 3 + 1, none⟩ = false := by
 rcases h.2 with ⟨h3, _⟩ | ⟨g', cap', cur, h3, h4, h5, h6, h7, h8, h9⟩
 · cases h3
 · cases h3
   have hx : xs[j]? = some (rd_T59 xs j) := by unfold rd_T59; rw [Int.toNat_natCast, List.getD_eq_getElem?_getD, List.getElem?_eq_getElem hj]; rfl
   have h10 := (cellsE_get xs j _ hx).2.1
   rw [← h9, List.getElem?_take_of_lt (by omega), Array.getElem?_toList] at h10
   refine ⟨?_, blk_frozen h5 _⟩
   unfold World.cell?
   simp only [h5]
   rw [Nat.mul_comm j 3]
   exact h10
theorem cellsE_set (xs : List S59) (j : Nat) (u : Int) : cellsE (xs.set j ⟨(rd_T59 xs j).f0, u, (rd_T59 xs j).f2⟩) = (cellsE xs).set (j * 3 + 1) (.int .i64 u) := by
 induction xs generalizing j with
 | nil => simp [cellsE]
 | cons y xs ih =>
  cases j with
  | zero => simp [cellsE, rd_T59]
  | succ j =>
   have e : rd_T59 (y :: xs) ((j + 1 : Nat) : Int) = rd_T59 xs (j : Int) := by unfold rd_T59; rw [Int.toNat_natCast, Int.toNat_natCast]; rfl
   have e2 : ∀ zs : List S59, cellsE (y :: zs) = .int .i64 y.f0 :: .int .i64 y.f1 :: .int .i64 y.f2 :: cellsE zs := fun zs => by simp [cellsE]
   rw [e, List.set_cons_succ, e2, e2, ih j, show (j + 1) * 3 + 1 = (j * 3 + 1) + 1 + 1 + 1 by omega]
   simp only [List.set_cons_succ]
theorem OwnE.set1 {W : World} {base g cap n : Nat} {xs : List S59} (h : OwnE W base (.slice (some ⟨g, 0, none⟩) n cap) xs) (j : Nat) (u : Int) : OwnE (W.setCell ⟨g, j * 3 + 1, none⟩ (.int .i64 u)) base (.slice (some ⟨g, 0, none⟩) n cap) (xs.set j ⟨(rd_T59 xs j).f0, u, (rd_T59 xs j).f2⟩) := by
 rcases h.2 with ⟨h3, _⟩ | ⟨g', cap', cur, h3, h4, h5, h6, h7, h8, h9⟩
 · cases h3
 · cases h3
   refine ⟨cellsE_len _, .inr ⟨g, cap, cur.setIfInBounds (j * 3 + 1) (.int .i64 u), by rw [List.length_set], h4, by simp [World.setCell, Array.getElem?_modify, h5], by rw [List.length_set]; exact h6, h7, by simp [h8], ?_⟩⟩
   rw [List.length_set, cellsE_set, ← h9, Array.toList_setIfInBounds, List.take_set]
set_option maxRecDepth 100000 in
set_option maxHeartbeats 2000000 in
theorem alignChanged_calls (A0 : Option Addr) (c0 : Nat) (l0 : List S59) (A1 : Option Addr) (c1 : Nat) (l1 : List S59) (a2 a3 : Int) (w : World) (hC0 : Kd.C k111 w A0 l0.length l0) (hc0 : l0.length ≤ c0) (hb0 : ∀ x ∈ l0, Byte3 x) (hC1 : Kd.C k111 w A1 l1.length l1) (hc1 : l1.length ≤ c1) (hb1 : ∀ x ∈ l1, Byte3 x) (h2 : isByte a2) (h3 : isByte a3) :
  Calls Try.prog 7 #[.slice A0 l0.length c0, .slice A1 l1.length c1, .int .u8 a2, .int .u8 a3] w fun e w' => e = .returned (.bool true) ∧ Below w.heap.size w w' := by
  have hu59 := Try.underlying59
  have H0 := Aside0.mk hC0
  have H1 := Aside0.mk hC1
  have HA0 := Aside0.mk (And.intro hc0 hb0)
  have HA1 := Aside0.mk (And.intro hc1 hb1)
  have HB := Aside0.mk (Below.refl w.heap.size w)
  have hlen := made_len l0
  unfold isByte at h2 h3
  obtain ⟨j, hj⟩ : ∃ j : Nat, (j : Int) = a2 % ((madeF l0).length : Int) := ⟨(a2 % ((madeF l0).length : Int)).toNat, by have := Int.emod_nonneg a2 (b := ((madeF l0).length : Int)) (by omega); omega⟩
  have hjl : j < (madeF l0).length := by have := Int.emod_lt_of_pos a2 (b := ((madeF l0).length : Int)) (by omega); omega
  obtain ⟨n, hn⟩ : ∃ n : Int, n = a3 % 30 := ⟨_, rfl⟩
  have hn2 : 0 ≤ n ∧ n ≤ 29 := by omega
  have r01 := made_rolls hb0 hb1
  have hf1 : ∀ x ∈ madeF l0, x.f1 ≤ 19 := by
   intro x hx
   unfold madeF at hx
   split at hx
   · rw [List.mem_singleton.1 hx]; decide
   · obtain ⟨y, hy, rfl⟩ := List.mem_map.1 hx
     unfold madeOne
     dsimp only
     omega
  have hmem : rd_T59 (madeF l0) j ∈ madeF l0 := by unfold rd_T59; rw [Int.toNat_natCast, List.getD_eq_getElem?_getD, List.getElem?_eq_getElem hjl]; exact List.getElem_mem _
  have rlb : Rolls (louder (madeF l0) j n) (madeF l1) := ⟨by rw [louder_len]; exact r01.ha, r01.hb, fun x hx => by
   unfold louder at hx
   rcases List.mem_or_eq_of_mem_set hx with hx | rfl
   · exact r01.ga x hx
   · obtain ⟨g1, g2, g3⟩ := good_in (r01.ga _ hmem)
     have := hf1 _ hmem
     unfold goodB isIn
     simp only [Bool.and_eq_true, decide_eq_true_iff]
     exact ⟨g1, ⟨by omega, by omega⟩, g3⟩, r01.gb⟩
  obtain ⟨x, y, hF, hle, hin⟩ : ∃ x y : Int, (align_Gap.f (madeF l0) (madeF l1) = some (x, 0) ∧ align_Gap.f (louder (madeF l0) j n) (madeF l1) = some (y, 0)) ∧ (y ≤ x + n ∧ x ≤ y + n) ∧ ((0 ≤ x ∧ x ≤ 1000000) ∧ (0 ≤ y ∧ y ≤ 1000000)) :=
   ⟨_, _, ⟨gap_f r01, gap_f rlb⟩, gap_louder r01 rlb hn2.1, gap_in r01, gap_in rlb⟩
  have HF := Aside0.mk hF
  have e1 : wrap64 (x - y) = x - y := by unfold wrap64; omega
  have e2 : wrap64 (y - x) = y - x := by unfold wrap64; omega
  have e3 : decide (x - y ≤ n) = true := decide_eq_true (by omega)
  have e4 : decide (y - x ≤ n) = true := decide_eq_true (by omega)
  have e5 : IntKind.i64.wrap a2 = a2 := by rw [i64_w]; unfold wrap64; omega
  have e6 : IntKind.i64.wrap a3 = a3 := by rw [i64_w]; unfold wrap64; omega
  have e7 : a3.tmod 30 = n := by rw [hn]; exact Int.tmod_eq_emod_of_nonneg h3.1
  have e8 : a2.tmod ((madeF l0).length : Int) = (j : Int) := by rw [hj]; exact Int.tmod_eq_emod_of_nonneg h2.1
  have e9 : (((madeF l0).length : Int) == 0) = false := beq_eq_false_iff_ne.mpr (by omega)
  have hne : madeF l0 ≠ [] := fun e => by rw [e] at hlen; simp at hlen
  have hf := hf1 _ hmem
  have hg := (good_in (r01.ga _ hmem)).2.1
  have HJ := Aside0.mk (And.intro hjl (And.intro hne (And.intro hlen (And.intro hf (And.intro hg hn2)))))
  have e10 : wrap64 ((rd_T59 (madeF l0) j).f1 + n) = (rd_T59 (madeF l0) j).f1 + n := by unfold wrap64; omega
  clear hC0 hc0 hb0 hC1 hc1 hb1 hF hin hle hj hn hn2 h2 h3 hf1 hmem r01 rlb hlen hne hf hg
  go_enter Try.func7, Try.ntmps7
  go_wp2_with fail
  refine (made_calls A0 c0 l0 _ H0.out HA0.out.1 HA0.out.2).mono ?_
  rintro e w1 ⟨v, rfl, hR, hb⟩
  have hbb := hb; clear hb
  have HB' := Aside0.mk (below_then HB.out HB.out.size hbb); clear HB; have HB := HB'; clear HB'
  have H0' := Aside0.mk (Kd.C_below H0.out hbb); clear H0; have H0 := H0'; clear H0'
  have H1' := Aside0.mk (Kd.C_below H1.out hbb); clear H1; have H1 := H1'; clear H1'
  clear hbb
  obtain ⟨Aa, ca, rfl, hca, hCa⟩ := Kd.R_reads hR
  clear hR
  have HCa := Aside0.mk hCa; clear hCa
  go_wp2_with fail
  refine (made_calls A1 c1 l1 _ H1.out HA1.out.1 HA1.out.2).mono ?_
  rintro e w2 ⟨v, rfl, hR, hb⟩
  have hbb := hb; clear hb
  have HB' := Aside0.mk (below_then HB.out HB.out.size hbb); clear HB; have HB := HB'; clear HB'
  have H0' := Aside0.mk (Kd.C_below H0.out hbb); clear H0; have H0 := H0'; clear H0'
  have H1' := Aside0.mk (Kd.C_below H1.out hbb); clear H1; have H1 := H1'; clear H1'
  have HCa' := Aside0.mk (Kd.C_below HCa.out hbb); clear HCa; have HCa := HCa'; clear HCa'
  clear hbb
  obtain ⟨Ab, cb, rfl, hcb, hCb⟩ := Kd.R_reads hR
  clear hR
  have HCb := Aside0.mk hCb; clear hCb
  have hAa : ∃ ad, Aa = some ad := by
   obtain ⟨ad, h, _⟩ := at_T59 HCa.out 0 (by omega) (by have := HJ.out.2.2.1; omega)
   exact ⟨ad, h⟩
  obtain ⟨ad, rfl⟩ := hAa
  go_wp2_with (at_builtin; refine Aside0.out ?_)
  refine ⟨?_⟩
  have hb3 := below_alloc (Below.refl w2.heap.size w2) (.cells #[] 59)
  refine wpList_append_E rfl _ _ rfl w2.heap.size (.slice (some ⟨w2.heap.size, 0, none⟩) 0 0) [] (madeF l0) rfl (OwnE.empty w2 _ (Nat.le_refl _)) ad (madeF l0).length ca rfl rfl (C_cells (Kd.C_below HCa.out hb3) rfl) (by have := HJ.out.2.2.1; simp; omega) hb3.size ?_
  intro v' w3 hO hb hg
  rw [List.nil_append] at hO
  obtain ⟨gr, cap, rfl, hgr, hgl, hcp⟩ := ownE_some hO HJ.out.2.1
  obtain ⟨k1, k2⟩ := hO.cell1 j HJ.out.1
  have hjn := HJ.out.1
  have HO := Aside0.mk (hO.set1 j ((rd_T59 (madeF l0) j).f1 + n))
  have HG := Aside0.mk (And.intro hgr (And.intro hgl (hb3.trans hb)))
  clear hO hgr hgl hb hb3 hg
  go_wp2_with fail
  have hb5 : Below w2.heap.size w2 (w3.setCell ⟨gr, j * 3 + 1, none⟩ (.int .i64 ((rd_T59 (madeF l0) j).f1 + n))) := HG.out.2.2.trans ((Below.refl _ w3).setCell (p := ⟨gr, j * 3 + 1, none⟩) HG.out.1 _)
  have HCa' := Aside0.mk (Kd.C_below HCa.out hb5); clear HCa; have HCa := HCa'; clear HCa'
  have HCb' := Aside0.mk (Kd.C_below HCb.out hb5); clear HCb; have HCb := HCb'; clear HCb'
  obtain ⟨Ao, co, ho, hco, hCo⟩ := OwnE.reads HO.out
  injection ho with ho1 ho2 ho3
  subst ho1
  subst ho3
  have HCo := Aside0.mk hCo
  have HB' := Aside0.mk (below_then HB.out HB.out.size hb5); clear HB; have HB := HB'; clear HB'
  clear hb5 hCo ho2
  generalize (w3.setCell ⟨gr, j * 3 + 1, none⟩ (.int .i64 ((rd_T59 (madeF l0) j).f1 + n))) = w5 at HCa HCb HCo HB HO ⊢
  refine (align_Gap.calls (some ad) ca (madeF l0) Ab cb (madeF l1) x 0 _ HCa.out hca HCb.out hcb HF.out.1).mono ?_
  rintro e w6 ⟨rfl, hb⟩
  have hbb := hb; clear hb
  have HB' := Aside0.mk (below_then HB.out HB.out.size hbb); clear HB; have HB := HB'; clear HB'
  have HCa' := Aside0.mk (Kd.C_below HCa.out hbb); clear HCa; have HCa := HCa'; clear HCa'
  have HCb' := Aside0.mk (Kd.C_below HCb.out hbb); clear HCb; have HCb := HCb'; clear HCb'
  have HCo' := Aside0.mk (Kd.C_below HCo.out hbb); clear HCo; have HCo := HCo'; clear HCo'
  clear hbb
  go_wp2_with fail
  have hcall := align_Gap.calls (some ⟨gr, 0, none⟩) cap (louder (madeF l0) j n) Ab cb (madeF l1) y 0 w6 HCo.out hco HCb.out hcb HF.out.2
  rw [louder_len] at hcall
  refine (hcall).mono ?_
  rintro e w7 ⟨rfl, hb⟩
  have hbb := hb; clear hb
  have HB' := Aside0.mk (below_then HB.out HB.out.size hbb); clear HB; have HB := HB'; clear HB'
  have HCa' := Aside0.mk (Kd.C_below HCa.out hbb); clear HCa; have HCa := HCa'; clear HCa'
  have HCb' := Aside0.mk (Kd.C_below HCb.out hbb); clear HCb; have HCb := HCb'; clear HCb'
  have HCo' := Aside0.mk (Kd.C_below HCo.out hbb); clear HCo; have HCo := HCo'; clear HCo'
  clear hbb
  clear hcall
  go_wp2_with fail
  refine (works_calls _).mono ?_
  rintro e w8 ⟨rfl, hb⟩
  have hbb := hb; clear hb
  have HB' := Aside0.mk (below_then HB.out HB.out.size hbb); clear HB; have HB := HB'; clear HB'
  have HCa' := Aside0.mk (Kd.C_below HCa.out hbb); clear HCa; have HCa := HCa'; clear HCa'
  have HCb' := Aside0.mk (Kd.C_below HCb.out hbb); clear HCb; have HCb := HCb'; clear HCb'
  have HCo' := Aside0.mk (Kd.C_below HCo.out hbb); clear HCo; have HCo := HCo'; clear HCo'
  clear hbb
  go_wp2
  go_ret
  exact ⟨rfl, HB.out⟩

end Go.Proofs.Ytkocigldchiifaa.H
