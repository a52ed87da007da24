/- pianolalaw01.StepKnown: the examples of the chapter hold. Printed by gen_known01.py of this session. -/
import Derived.Test.YtnbcdbkhpdpjgaaHB
import Derived.Test.YtnbcdbkhpdpjgaaQC3
namespace Go.Proofs.Ytnbcdbkhpdpjgaa.H
open Go.RowKit Go.Proofs.YtnbcdbkhpdpjgaaW.PrintWords Go.Proofs.YtnbcdbkhpdpjgaaW.PrintLast Go.Proofs.YtnbcdbkhpdpjgaaW.PrintMore
open Go.Shelf Go.Proofs.Ytnbcdbkhpdpjgaa.QA
set_option linter.unusedVariables false
set_option linter.unusedSimpArgs false

theorem C_lit46b (W : World) (a b c d e f g h : Int) : Kd.C k46 (W.alloc (.cells #[.int .i64 a, .int .i64 b, .int .i64 c, .int .i64 d, .int .i64 e, .int .i64 f, .int .i64 g, .int .i64 h] 46)) (some ⟨W.heap.size, 0, none⟩) 4 [⟨a, b⟩, ⟨c, d⟩, ⟨e, f⟩, ⟨g, h⟩] := by
 refine ⟨rfl, by omega, fun _ => ⟨_, rfl, fun j p hj => ?_⟩⟩
 match j, hj with
 | 0, hj =>
  obtain rfl := Option.some.inj hj
  refine ⟨_, rfl, k46_mk _ _, fun i u hu => ?_⟩
  rw [add_plain, World.cell?_alloc_at _ _ _ _ rfl]
  match i, hu with
  | 0, hu => exact hu
  | 1, hu => exact hu
 | 1, hj =>
  obtain rfl := Option.some.inj hj
  refine ⟨_, rfl, k46_mk _ _, fun i u hu => ?_⟩
  rw [add_plain, World.cell?_alloc_at _ _ _ _ rfl]
  match i, hu with
  | 0, hu => exact hu
  | 1, hu => exact hu
 | 2, hj =>
  obtain rfl := Option.some.inj hj
  refine ⟨_, rfl, k46_mk _ _, fun i u hu => ?_⟩
  rw [add_plain, World.cell?_alloc_at _ _ _ _ rfl]
  match i, hu with
  | 0, hu => exact hu
  | 1, hu => exact hu
 | 3, hj =>
  obtain rfl := Option.some.inj hj
  refine ⟨_, rfl, k46_mk _ _, fun i u hu => ?_⟩
  rw [add_plain, World.cell?_alloc_at _ _ _ _ rfl]
  match i, hu with
  | 0, hu => exact hu
  | 1, hu => exact hu

set_option maxHeartbeats 8000000 in
set_option maxRecDepth 100000 in
theorem stepKnown_calls (w : World) : Calls Try.prog 13 #[] w fun e w' => e = .returned (.bool true) ∧ Below w.heap.size w w' := by
 have HB := Aside0.mk (Below.refl w.heap.size w)
 have hu46 := Try.underlying46
 have hu24 := Try.underlying24
 go_enter Try.func13, Try.ntmps13
 go_wp2_with fail
 refine (pianolalaw01_Z.calls 0 [[0, 4, 6]] _ rfl).mono ?_
 rintro e w1 ⟨v, rfl, hN, hb⟩
 have hbb := hb
 clear hb
 replace HB := Aside0.mk (below_then HB.out HB.out.size hbb)
 clear hbb
 obtain ⟨As, cs, rfl, hcs, hCs⟩ := Kd.N_reads hN
 clear hN
 have HCs := Aside0.mk hCs
 clear hCs
 go_wp2_with fail
 refine (step_Steps.calls 0 As cs [[0, 4, 6]] 1 10 [1, 2] 0 _ HCs.out hcs (by decide +kernel)).mono ?_
 rintro e w2 ⟨v, rfl, hR, hb⟩
 have hbb := hb
 clear hb
 replace HB := Aside0.mk (below_then HB.out HB.out.size hbb)
 clear hbb
 clear HCs hcs
 obtain ⟨Aa, ca, rfl, hca, hCa⟩ := Kd.R_reads hR
 clear hR
 have HCa := Aside0.mk hCa
 clear hCa
 go_wp2_with fail
 refine (pianolalaw01_Z.calls 0 [[0, 4, 6]] _ rfl).mono ?_
 rintro e w3 ⟨v, rfl, hN, hb⟩
 have hbb := hb
 clear hb
 replace HB := Aside0.mk (below_then HB.out HB.out.size hbb)
 replace HCa := Aside0.mk (Kd.C_below HCa.out hbb)
 clear hbb
 obtain ⟨As, cs, rfl, hcs, hCs⟩ := Kd.N_reads hN
 clear hN
 have HCs := Aside0.mk hCs
 clear hCs
 go_wp2_with fail
 refine (step_Clash.calls 0 As cs [[0, 4, 6]] 0 4 [0, 2] 0 _ HCs.out hcs (by kernel_rfl)).mono ?_
 rintro e w4 ⟨v, rfl, hR, hb⟩
 have hbb := hb
 clear hb
 replace HB := Aside0.mk (below_then HB.out HB.out.size hbb)
 replace HCa := Aside0.mk (Kd.C_below HCa.out hbb)
 clear hbb
 clear HCs hcs
 obtain ⟨Am, cm, rfl, hcm, hCm⟩ := Kd.R_reads hR
 clear hR
 have HCm := Aside0.mk hCm
 clear hCm
 go_wp2_with fail
 refine (pianolalaw01_X.calls 1 [[10, 24, 31, 45], [3, 17]] _ rfl).mono ?_
 rintro e w5 ⟨v, rfl, hN, hb⟩
 have hbb := hb
 clear hb
 replace HB := Aside0.mk (below_then HB.out HB.out.size hbb)
 replace HCa := Aside0.mk (Kd.C_below HCa.out hbb)
 replace HCm := Aside0.mk (Kd.C_below HCm.out hbb)
 clear hbb
 obtain ⟨As, cs, rfl, hcs, hCs⟩ := Kd.N_reads hN
 clear hN
 have HCs := Aside0.mk hCs
 clear hCs
 go_wp2_with fail
 refine (step_Offsets.calls 1 As cs [[10, 24, 31, 45], [3, 17]] 1 5 [2, 3] 0 _ HCs.out hcs (by decide +kernel)).mono ?_
 rintro e w6 ⟨v, rfl, hR, hb⟩
 have hbb := hb
 clear hb
 replace HB := Aside0.mk (below_then HB.out HB.out.size hbb)
 replace HCa := Aside0.mk (Kd.C_below HCa.out hbb)
 replace HCm := Aside0.mk (Kd.C_below HCm.out hbb)
 clear hbb
 clear HCs hcs
 obtain ⟨Ac, cc, rfl, hcc, hCc⟩ := Kd.R_reads hR
 clear hR
 have HCc := Aside0.mk hCc
 clear hCc
 go_wp2_with fail
 refine (pianolalaw01_X.calls 1 [[10, 24, 31, 45], [3, 17]] _ rfl).mono ?_
 rintro e w7 ⟨v, rfl, hN, hb⟩
 have hbb := hb
 clear hb
 replace HB := Aside0.mk (below_then HB.out HB.out.size hbb)
 replace HCa := Aside0.mk (Kd.C_below HCa.out hbb)
 replace HCm := Aside0.mk (Kd.C_below HCm.out hbb)
 replace HCc := Aside0.mk (Kd.C_below HCc.out hbb)
 clear hbb
 obtain ⟨As, cs, rfl, hcs, hCs⟩ := Kd.N_reads hN
 clear hN
 have HCs := Aside0.mk hCs
 clear hCs
 go_wp2_with fail
 refine (step_Rows.calls 20 1 As cs [[10, 24, 31, 45], [3, 17]] 0 7 3 [⟨1, 1⟩, ⟨3, 3⟩, ⟨4, 4⟩, ⟨6, 6⟩] 0 _ HCs.out hcs (by kernel_rfl)).mono ?_
 rintro e w8 ⟨v, rfl, hR, hb⟩
 have hbb := hb
 clear hb
 replace HB := Aside0.mk (below_then HB.out HB.out.size hbb)
 replace HCa := Aside0.mk (Kd.C_below HCa.out hbb)
 replace HCm := Aside0.mk (Kd.C_below HCm.out hbb)
 replace HCc := Aside0.mk (Kd.C_below HCc.out hbb)
 clear hbb
 clear HCs hcs
 obtain ⟨Ad, cd, rfl, hcd, hCd⟩ := Kd.R_reads hR
 clear hR
 have HCd := Aside0.mk hCd
 clear hCd
 go_wp2_with fail
 refine (pianolalaw01_numbers.calls 20 Aa ca [1, 2] _ 2 [1, 2] true _ (Kd.C_alloc HCa.out _) hca (C_lit _ _ [1, 2] rfl rfl (by decide)) (Nat.le_refl _) (by decide +kernel)).mono ?_
 rintro e w9 ⟨rfl, hd⟩; have hb := hd.below; clear hd
 have hbb := below_then (below_alloc (Below.refl w8.heap.size w8) _) (by simp) hb
 clear hb
 replace HB := Aside0.mk (below_then HB.out HB.out.size hbb)
 replace HCa := Aside0.mk (Kd.C_below HCa.out hbb)
 replace HCm := Aside0.mk (Kd.C_below HCm.out hbb)
 replace HCc := Aside0.mk (Kd.C_below HCc.out hbb)
 replace HCd := Aside0.mk (Kd.C_below HCd.out hbb)
 clear hbb
 clear HCa hca
 go_wp2_with fail
 refine (pianolalaw01_Z.calls 0 [[0, 4, 6]] _ rfl).mono ?_
 rintro e w10 ⟨v, rfl, hN, hb⟩
 have hbb := hb
 clear hb
 replace HB := Aside0.mk (below_then HB.out HB.out.size hbb)
 replace HCm := Aside0.mk (Kd.C_below HCm.out hbb)
 replace HCc := Aside0.mk (Kd.C_below HCc.out hbb)
 replace HCd := Aside0.mk (Kd.C_below HCd.out hbb)
 clear hbb
 obtain ⟨As, cs, rfl, hcs, hCs⟩ := Kd.N_reads hN
 clear hN
 have HCs := Aside0.mk hCs
 clear hCs
 go_wp2_with fail
 refine (step_Verify.calls 20 0 As cs [[0, 4, 6]] 0 4 Am cm [0, 2] 0 _ HCs.out hcs HCm.out hcm (by decide +kernel)).mono ?_
 rintro e w11 ⟨rfl, hb⟩
 have hbb := hb
 clear hb
 replace HB := Aside0.mk (below_then HB.out HB.out.size hbb)
 replace HCm := Aside0.mk (Kd.C_below HCm.out hbb)
 replace HCc := Aside0.mk (Kd.C_below HCc.out hbb)
 replace HCd := Aside0.mk (Kd.C_below HCd.out hbb)
 clear hbb
 clear HCs hcs HCm hcm
 go_wp2_with fail
 refine (pianolalaw01_Z.calls 0 [[0, 4, 6]] _ rfl).mono ?_
 rintro e w12 ⟨v, rfl, hN, hb⟩
 have hbb := hb
 clear hb
 replace HB := Aside0.mk (below_then HB.out HB.out.size hbb)
 replace HCc := Aside0.mk (Kd.C_below HCc.out hbb)
 replace HCd := Aside0.mk (Kd.C_below HCd.out hbb)
 clear hbb
 obtain ⟨As, cs, rfl, hcs, hCs⟩ := Kd.N_reads hN
 clear hN
 have HCs := Aside0.mk hCs
 clear hCs
 go_wp2_with fail
 refine (step_Verify.calls 20 0 As cs [[0, 4, 6]] 0 4 _ 2 [0, 2] 0 _ (Kd.C_alloc HCs.out _) hcs (C_lit _ _ [0, 2] rfl rfl (by decide)) (Nat.le_refl _) (by decide +kernel)).mono ?_
 rintro e w13 ⟨rfl, hb⟩
 have hbb := below_then (below_alloc (Below.refl w12.heap.size w12) _) (by simp) hb
 clear hb
 replace HB := Aside0.mk (below_then HB.out HB.out.size hbb)
 replace HCc := Aside0.mk (Kd.C_below HCc.out hbb)
 replace HCd := Aside0.mk (Kd.C_below HCd.out hbb)
 clear hbb
 clear HCs hcs
 go_wp2_with fail
 refine (pianolalaw01_numbers.calls 20 Ac cc [2, 3] _ 2 [2, 3] true _ (Kd.C_alloc HCc.out _) hcc (C_lit _ _ [2, 3] rfl rfl (by decide)) (Nat.le_refl _) (by decide +kernel)).mono ?_
 rintro e w14 ⟨rfl, hd⟩; have hb := hd.below; clear hd
 have hbb := below_then (below_alloc (Below.refl w13.heap.size w13) _) (by simp) hb
 clear hb
 replace HB := Aside0.mk (below_then HB.out HB.out.size hbb)
 replace HCc := Aside0.mk (Kd.C_below HCc.out hbb)
 replace HCd := Aside0.mk (Kd.C_below HCd.out hbb)
 clear hbb
 clear HCc hcc
 go_wp2_with fail
 refine (pianolalaw01_spans.calls 20 Ad cd [⟨1, 1⟩, ⟨3, 3⟩, ⟨4, 4⟩, ⟨6, 6⟩] _ 4 [⟨1, 1⟩, ⟨3, 3⟩, ⟨4, 4⟩, ⟨6, 6⟩] true _ (Kd.C_alloc HCd.out _) hcd (C_lit46b _ _ _ _ _ _ _ _ _) (Nat.le_refl _) (by kernel_rfl)).mono ?_
 rintro e w15 ⟨rfl, hd⟩; have hb := hd.below; clear hd
 have hbb := below_then (below_alloc (Below.refl w14.heap.size w14) _) (by simp) hb
 clear hb
 replace HB := Aside0.mk (below_then HB.out HB.out.size hbb)
 replace HCd := Aside0.mk (Kd.C_below HCd.out hbb)
 clear hbb
 clear HCd hcd
 go_wp2_with fail
 refine (works_calls _).mono ?_
 rintro e w16 ⟨rfl, hb⟩
 have hbb := hb
 clear hb
 replace HB := Aside0.mk (below_then HB.out HB.out.size hbb)
 clear hbb
 go_wp2
 go_ret
 exact ⟨rfl, HB.out⟩

end Go.Proofs.Ytnbcdbkhpdpjgaa.H
