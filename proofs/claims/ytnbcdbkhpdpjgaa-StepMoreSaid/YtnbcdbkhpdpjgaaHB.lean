/- pianolalaw01.works: the examples of the chapter hold. Printed by gen_works01.py of this session. -/
import Derived.Test.YtnbcdbkhpdpjgaaQA9
import Derived.Test.YtnbcdbkhpdpjgaaHA
import Derived.Test.YtnbcdbkhpdpjgaaH2
namespace Go.Proofs.Ytnbcdbkhpdpjgaa.H
open Go.RowKit Go.Proofs.YtnbcdbkhpdpjgaaW.PrintWords Go.Proofs.YtnbcdbkhpdpjgaaW.PrintLast Go.Proofs.YtnbcdbkhpdpjgaaW.PrintMore
open Go.Shelf Go.Proofs.Ytnbcdbkhpdpjgaa.QA
set_option linter.unusedVariables false
set_option linter.unusedSimpArgs false

theorem C_lit (W : World) (cs : Array Value) (l : List Int) (h : cs = (l.map (Value.int .i64)).toArray) {n : Nat} (hn : n = l.length) (hm : l.length ≤ 1000) : Kd.C (Kd.int .i64) (W.alloc (.cells cs 3)) (some ⟨W.heap.size, 0, none⟩) n l := by
  subst h
  subst hn
  refine Kd.C_of_reads (d := 0) ⟨rfl, by omega, fun _ => ⟨_, rfl, fun j hj => ?_⟩⟩
  rw [add_plain, World.cell?_alloc_at _ _ _ _ rfl]
  simp [hj, List.getD_eq_getElem?_getD]

theorem C_lit46 (W : World) (a b c d e f : Int) : Kd.C k46 (W.alloc (.cells #[.int .i64 a, .int .i64 b, .int .i64 c, .int .i64 d, .int .i64 e, .int .i64 f] 46)) (some ⟨W.heap.size, 0, none⟩) 3 [⟨a, b⟩, ⟨c, d⟩, ⟨e, f⟩] := by
  refine ⟨rfl, by omega, fun _ => ⟨_, rfl, fun j p hj => ?_⟩⟩
  match j, hj with
  | 0, hj => 
    obtain rfl := Option.some.inj hj
    refine ⟨_, rfl, k46_mk _ _, fun i u hu => ?_⟩
    rw [add_plain, World.cell?_alloc_at _ _ _ _ rfl]
    match i, hu with
    | 0, hu => exact hu
    | 1, hu => exact hu
  | 1, hj => 
    obtain rfl := Option.some.inj hj
    refine ⟨_, rfl, k46_mk _ _, fun i u hu => ?_⟩
    rw [add_plain, World.cell?_alloc_at _ _ _ _ rfl]
    match i, hu with
    | 0, hu => exact hu
    | 1, hu => exact hu
  | 2, hj => 
    obtain rfl := Option.some.inj hj
    refine ⟨_, rfl, k46_mk _ _, fun i u hu => ?_⟩
    rw [add_plain, World.cell?_alloc_at _ _ _ _ rfl]
    match i, hu with
    | 0, hu => exact hu
    | 1, hu => exact hu

def pianolalaw01_works.f : Option Bool := some true
set_option maxHeartbeats 8000000 in
set_option maxRecDepth 100000 in
theorem works_calls (w : World) : Calls Try.prog 15 #[] w fun e w' => e = .returned (.bool true) ∧ Below w.heap.size w w' := by
  have HB := Aside0.mk (Below.refl w.heap.size w)
  have hu46 := Try.underlying46
  have hu24 := Try.underlying24
  go_enter Try.func15, Try.ntmps15
  go_wp2_with fail
  refine (pianolalaw01_X.calls 1 [[10, 24, 31, 45], [3, 17]] _ rfl).mono ?_
  rintro e w1 ⟨v, rfl, hN, hb⟩
  have hbb := hb; clear hb
  have HB' := Aside0.mk (below_then HB.out HB.out.size hbb); clear HB; have HB := HB'; clear HB'
  clear hbb
  obtain ⟨As, cs, rfl, hcs, hCs⟩ := Kd.N_reads hN
  clear hN
  have HCs := Aside0.mk hCs; clear hCs
  go_wp2_with fail
  refine (step_Steps.calls 1 As cs [[10, 24, 31, 45], [3, 17]] 5 8 [5, 7] 0 _ HCs.out hcs (by decide +kernel)).mono ?_
  rintro e w2 ⟨v, rfl, hR, hb⟩
  have hbb := hb; clear hb
  have HB' := Aside0.mk (below_then HB.out HB.out.size hbb); clear HB; have HB := HB'; clear HB'
  clear hbb
  clear HCs hcs
  obtain ⟨Aa, ca, rfl, hca, hCa⟩ := Kd.R_reads hR
  clear hR
  have HCa := Aside0.mk hCa; clear hCa
  go_wp2_with fail
  refine (pianolalaw01_X.calls 1 [[10, 24, 31, 45], [3, 17]] _ rfl).mono ?_
  rintro e w3 ⟨v, rfl, hN, hb⟩
  have hbb := hb; clear hb
  have HB' := Aside0.mk (below_then HB.out HB.out.size hbb); clear HB; have HB := HB'; clear HB'
  have HCa' := Aside0.mk (Kd.C_below HCa.out hbb); clear HCa; have HCa := HCa'; clear HCa'
  clear hbb
  obtain ⟨As, cs, rfl, hcs, hCs⟩ := Kd.N_reads hN
  clear hN
  have HCs := Aside0.mk hCs; clear hCs
  go_wp2_with fail
  refine (step_Greatest.calls 1 As cs [[10, 24, 31, 45], [3, 17]] 1 20 7 0 _ HCs.out hcs (by decide +kernel)).mono ?_
  rintro e w4 ⟨rfl, hb⟩
  have hbb := hb; clear hb
  have HB' := Aside0.mk (below_then HB.out HB.out.size hbb); clear HB; have HB := HB'; clear HB'
  have HCa' := Aside0.mk (Kd.C_below HCa.out hbb); clear HCa; have HCa := HCa'; clear HCa'
  clear hbb
  clear HCs hcs
  go_wp2_with fail
  refine (pianolalaw01_X.calls 1 [[10, 24, 31, 45], [3, 17]] _ rfl).mono ?_
  rintro e w5 ⟨v, rfl, hN, hb⟩
  have hbb := hb; clear hb
  have HB' := Aside0.mk (below_then HB.out HB.out.size hbb); clear HB; have HB := HB'; clear HB'
  have HCa' := Aside0.mk (Kd.C_below HCa.out hbb); clear HCa; have HCa := HCa'; clear HCa'
  clear hbb
  obtain ⟨As, cs, rfl, hcs, hCs⟩ := Kd.N_reads hN
  clear hN
  have HCs := Aside0.mk hCs; clear hCs
  go_wp2_with fail
  refine (step_Offsets.calls 1 As cs [[10, 24, 31, 45], [3, 17]] 0 7 [2, 3, 4] 0 _ HCs.out hcs (by decide +kernel)).mono ?_
  rintro e w6 ⟨v, rfl, hR, hb⟩
  have hbb := hb; clear hb
  have HB' := Aside0.mk (below_then HB.out HB.out.size hbb); clear HB; have HB := HB'; clear HB'
  have HCa' := Aside0.mk (Kd.C_below HCa.out hbb); clear HCa; have HCa := HCa'; clear HCa'
  clear hbb
  clear HCs hcs
  obtain ⟨Ac, cc, rfl, hcc, hCc⟩ := Kd.R_reads hR
  clear hR
  have HCc := Aside0.mk hCc; clear hCc
  go_wp2_with fail
  refine (pianolalaw01_W.calls 1 [[0, 2, 4]] _ rfl).mono ?_
  rintro e w7 ⟨v, rfl, hN, hb⟩
  have hbb := hb; clear hb
  have HB' := Aside0.mk (below_then HB.out HB.out.size hbb); clear HB; have HB := HB'; clear HB'
  have HCa' := Aside0.mk (Kd.C_below HCa.out hbb); clear HCa; have HCa := HCa'; clear HCa'
  have HCc' := Aside0.mk (Kd.C_below HCc.out hbb); clear HCc; have HCc := HCc'; clear HCc'
  clear hbb
  obtain ⟨As, cs, rfl, hcs, hCs⟩ := Kd.N_reads hN
  clear hN
  have HCs := Aside0.mk hCs; clear hCs
  go_wp2_with fail
  refine (step_Rows.calls 20 1 As cs [[0, 2, 4]] 0 2 1 [⟨-1, 0⟩, ⟨0, 1⟩, ⟨1, 2⟩] 0 _ HCs.out hcs (by kernel_rfl)).mono ?_
  rintro e w8 ⟨v, rfl, hR, hb⟩
  have hbb := hb; clear hb
  have HB' := Aside0.mk (below_then HB.out HB.out.size hbb); clear HB; have HB := HB'; clear HB'
  have HCa' := Aside0.mk (Kd.C_below HCa.out hbb); clear HCa; have HCa := HCa'; clear HCa'
  have HCc' := Aside0.mk (Kd.C_below HCc.out hbb); clear HCc; have HCc := HCc'; clear HCc'
  clear hbb
  clear HCs hcs
  obtain ⟨Ad, cd, rfl, hcd, hCd⟩ := Kd.R_reads hR
  clear hR
  have HCd := Aside0.mk hCd; clear hCd
  go_wp2_with fail
  refine (pianolalaw01_W.calls 1 [[0, 2, 4]] _ rfl).mono ?_
  rintro e w9 ⟨v, rfl, hN, hb⟩
  have hbb := hb; clear hb
  have HB' := Aside0.mk (below_then HB.out HB.out.size hbb); clear HB; have HB := HB'; clear HB'
  have HCa' := Aside0.mk (Kd.C_below HCa.out hbb); clear HCa; have HCa := HCa'; clear HCa'
  have HCc' := Aside0.mk (Kd.C_below HCc.out hbb); clear HCc; have HCc := HCc'; clear HCc'
  have HCd' := Aside0.mk (Kd.C_below HCd.out hbb); clear HCd; have HCd := HCd'; clear HCd'
  clear hbb
  obtain ⟨As, cs, rfl, hcs, hCs⟩ := Kd.N_reads hN
  clear hN
  have HCs := Aside0.mk hCs; clear hCs
  go_wp2_with fail
  refine (step_Clash.calls 1 As cs [[0, 2, 4]] 0 6 [0, 1, 2] 0 _ HCs.out hcs (by decide +kernel)).mono ?_
  rintro e w10 ⟨v, rfl, hR, hb⟩
  have hbb := hb; clear hb
  have HB' := Aside0.mk (below_then HB.out HB.out.size hbb); clear HB; have HB := HB'; clear HB'
  have HCa' := Aside0.mk (Kd.C_below HCa.out hbb); clear HCa; have HCa := HCa'; clear HCa'
  have HCc' := Aside0.mk (Kd.C_below HCc.out hbb); clear HCc; have HCc := HCc'; clear HCc'
  have HCd' := Aside0.mk (Kd.C_below HCd.out hbb); clear HCd; have HCd := HCd'; clear HCd'
  clear hbb
  clear HCs hcs
  obtain ⟨Al, cl, rfl, hcl, hCl⟩ := Kd.R_reads hR
  clear hR
  have HCl := Aside0.mk hCl; clear hCl
  go_wp2_with fail
  refine (pianolalaw01_X.calls 1 [[10, 24, 31, 45], [3, 17]] _ rfl).mono ?_
  rintro e w11 ⟨v, rfl, hN, hb⟩
  have hbb := hb; clear hb
  have HB' := Aside0.mk (below_then HB.out HB.out.size hbb); clear HB; have HB := HB'; clear HB'
  have HCa' := Aside0.mk (Kd.C_below HCa.out hbb); clear HCa; have HCa := HCa'; clear HCa'
  have HCc' := Aside0.mk (Kd.C_below HCc.out hbb); clear HCc; have HCc := HCc'; clear HCc'
  have HCd' := Aside0.mk (Kd.C_below HCd.out hbb); clear HCd; have HCd := HCd'; clear HCd'
  have HCl' := Aside0.mk (Kd.C_below HCl.out hbb); clear HCl; have HCl := HCl'; clear HCl'
  clear hbb
  obtain ⟨As, cs, rfl, hcs, hCs⟩ := Kd.N_reads hN
  clear hN
  have HCs := Aside0.mk hCs; clear hCs
  go_wp2_with fail
  refine (step_Clash.calls 1 As cs [[10, 24, 31, 45], [3, 17]] 0 8 [0, 2] 0 _ HCs.out hcs (by kernel_rfl)).mono ?_
  rintro e w12 ⟨v, rfl, hR, hb⟩
  have hbb := hb; clear hb
  have HB' := Aside0.mk (below_then HB.out HB.out.size hbb); clear HB; have HB := HB'; clear HB'
  have HCa' := Aside0.mk (Kd.C_below HCa.out hbb); clear HCa; have HCa := HCa'; clear HCa'
  have HCc' := Aside0.mk (Kd.C_below HCc.out hbb); clear HCc; have HCc := HCc'; clear HCc'
  have HCd' := Aside0.mk (Kd.C_below HCd.out hbb); clear HCd; have HCd := HCd'; clear HCd'
  have HCl' := Aside0.mk (Kd.C_below HCl.out hbb); clear HCl; have HCl := HCl'; clear HCl'
  clear hbb
  clear HCs hcs
  obtain ⟨Am, cm, rfl, hcm, hCm⟩ := Kd.R_reads hR
  clear hR
  have HCm := Aside0.mk hCm; clear hCm
  go_wp2_with fail
  refine (pianolalaw01_X.calls 1 [[10, 24, 31, 45], [3, 17]] _ rfl).mono ?_
  rintro e w13 ⟨v, rfl, hN, hb⟩
  have hbb := hb; clear hb
  have HB' := Aside0.mk (below_then HB.out HB.out.size hbb); clear HB; have HB := HB'; clear HB'
  have HCa' := Aside0.mk (Kd.C_below HCa.out hbb); clear HCa; have HCa := HCa'; clear HCa'
  have HCc' := Aside0.mk (Kd.C_below HCc.out hbb); clear HCc; have HCc := HCc'; clear HCc'
  have HCd' := Aside0.mk (Kd.C_below HCd.out hbb); clear HCd; have HCd := HCd'; clear HCd'
  have HCl' := Aside0.mk (Kd.C_below HCl.out hbb); clear HCl; have HCl := HCl'; clear HCl'
  have HCm' := Aside0.mk (Kd.C_below HCm.out hbb); clear HCm; have HCm := HCm'; clear HCm'
  clear hbb
  obtain ⟨As, cs, rfl, hcs, hCs⟩ := Kd.N_reads hN
  clear hN
  have HCs := Aside0.mk hCs; clear hCs
  go_wp2_with fail
  refine (step_Verify.calls 20 1 As cs [[10, 24, 31, 45], [3, 17]] 0 8 Am cm [0, 2] 0 _ HCs.out hcs HCm.out hcm (by decide +kernel)).mono ?_
  rintro e w14 ⟨rfl, hb⟩
  have hbb := hb; clear hb
  have HB' := Aside0.mk (below_then HB.out HB.out.size hbb); clear HB; have HB := HB'; clear HB'
  have HCa' := Aside0.mk (Kd.C_below HCa.out hbb); clear HCa; have HCa := HCa'; clear HCa'
  have HCc' := Aside0.mk (Kd.C_below HCc.out hbb); clear HCc; have HCc := HCc'; clear HCc'
  have HCd' := Aside0.mk (Kd.C_below HCd.out hbb); clear HCd; have HCd := HCd'; clear HCd'
  have HCl' := Aside0.mk (Kd.C_below HCl.out hbb); clear HCl; have HCl := HCl'; clear HCl'
  have HCm' := Aside0.mk (Kd.C_below HCm.out hbb); clear HCm; have HCm := HCm'; clear HCm'
  clear hbb
  clear HCs hcs HCm hcm
  go_wp2_with fail
  refine (pianolalaw01_numbers.calls 20 Aa ca [5, 7] _ 2 [5, 7] true _ (Kd.C_alloc HCa.out _) hca (C_lit _ _ [5, 7] rfl rfl (by decide)) (Nat.le_refl _) (by decide +kernel)).mono ?_
  rintro e w15 ⟨rfl, hd⟩; have hb := hd.below; clear hd
  have hbb := below_then (below_alloc (Below.refl w14.heap.size w14) _) (by simp) hb; clear hb
  have HB' := Aside0.mk (below_then HB.out HB.out.size hbb); clear HB; have HB := HB'; clear HB'
  have HCa' := Aside0.mk (Kd.C_below HCa.out hbb); clear HCa; have HCa := HCa'; clear HCa'
  have HCc' := Aside0.mk (Kd.C_below HCc.out hbb); clear HCc; have HCc := HCc'; clear HCc'
  have HCd' := Aside0.mk (Kd.C_below HCd.out hbb); clear HCd; have HCd := HCd'; clear HCd'
  have HCl' := Aside0.mk (Kd.C_below HCl.out hbb); clear HCl; have HCl := HCl'; clear HCl'
  clear hbb
  clear HCa hca
  go_wp2_with fail
  refine (pianolalaw01_numbers.calls 20 Ac cc [2, 3, 4] _ 3 [2, 3, 4] true _ (Kd.C_alloc HCc.out _) hcc (C_lit _ _ [2, 3, 4] rfl rfl (by decide)) (Nat.le_refl _) (by decide +kernel)).mono ?_
  rintro e w16 ⟨rfl, hd⟩; have hb := hd.below; clear hd
  have hbb := below_then (below_alloc (Below.refl w15.heap.size w15) _) (by simp) hb; clear hb
  have HB' := Aside0.mk (below_then HB.out HB.out.size hbb); clear HB; have HB := HB'; clear HB'
  have HCc' := Aside0.mk (Kd.C_below HCc.out hbb); clear HCc; have HCc := HCc'; clear HCc'
  have HCd' := Aside0.mk (Kd.C_below HCd.out hbb); clear HCd; have HCd := HCd'; clear HCd'
  have HCl' := Aside0.mk (Kd.C_below HCl.out hbb); clear HCl; have HCl := HCl'; clear HCl'
  clear hbb
  clear HCc hcc
  go_wp2_with fail
  refine (pianolalaw01_spans.calls 20 Ad cd [⟨-1, 0⟩, ⟨0, 1⟩, ⟨1, 2⟩] _ 3 [⟨-1, 0⟩, ⟨0, 1⟩, ⟨1, 2⟩] true _ (Kd.C_alloc HCd.out _) hcd (C_lit46 _ _ _ _ _ _ _) (Nat.le_refl _) (by kernel_rfl)).mono ?_
  rintro e w17 ⟨rfl, hd⟩; have hb := hd.below; clear hd
  have hbb := below_then (below_alloc (Below.refl w16.heap.size w16) _) (by simp) hb; clear hb
  have HB' := Aside0.mk (below_then HB.out HB.out.size hbb); clear HB; have HB := HB'; clear HB'
  have HCd' := Aside0.mk (Kd.C_below HCd.out hbb); clear HCd; have HCd := HCd'; clear HCd'
  have HCl' := Aside0.mk (Kd.C_below HCl.out hbb); clear HCl; have HCl := HCl'; clear HCl'
  clear hbb
  clear HCd hcd
  go_wp2_with fail
  refine (pianolalaw01_numbers.calls 20 Al cl [0, 1, 2] _ 3 [0, 1, 2] true _ (Kd.C_alloc HCl.out _) hcl (C_lit _ _ [0, 1, 2] rfl rfl (by decide)) (Nat.le_refl _) (by decide +kernel)).mono ?_
  rintro e w18 ⟨rfl, hd⟩; have hb := hd.below; clear hd
  have hbb := below_then (below_alloc (Below.refl w17.heap.size w17) _) (by simp) hb; clear hb
  have HB' := Aside0.mk (below_then HB.out HB.out.size hbb); clear HB; have HB := HB'; clear HB'
  have HCl' := Aside0.mk (Kd.C_below HCl.out hbb); clear HCl; have HCl := HCl'; clear HCl'
  clear hbb
  clear HCl hcl
  go_wp2_with fail
  refine (pianolalaw01_W.calls 1 [[0, 2, 4]] _ rfl).mono ?_
  rintro e w19 ⟨v, rfl, hN, hb⟩
  have hbb := hb; clear hb
  have HB' := Aside0.mk (below_then HB.out HB.out.size hbb); clear HB; have HB := HB'; clear HB'
  clear hbb
  obtain ⟨As, cs, rfl, hcs, hCs⟩ := Kd.N_reads hN
  clear hN
  have HCs := Aside0.mk hCs; clear hCs
  go_wp2_with fail
  refine (step_Verify.calls 20 1 As cs [[0, 2, 4]] 0 6 _ 2 [0, 1] 14 _ (Kd.C_alloc HCs.out _) hcs (C_lit _ _ [0, 1] rfl rfl (by decide)) (Nat.le_refl _) (by decide +kernel)).mono ?_
  rintro e w20 ⟨rfl, hb⟩
  have hbb := below_then (below_alloc (Below.refl w19.heap.size w19) _) (by simp) hb; clear hb
  have HB' := Aside0.mk (below_then HB.out HB.out.size hbb); clear HB; have HB := HB'; clear HB'
  clear hbb
  clear HCs hcs
  go_wp2_with fail
  refine (step_Name.calls ⟨#[114, 111, 108, 108]⟩ true _ (by decide +kernel)).mono ?_
  rintro e w21 ⟨rfl, hb⟩
  have hbb := hb; clear hb
  have HB' := Aside0.mk (below_then HB.out HB.out.size hbb); clear HB; have HB := HB'; clear HB'
  clear hbb
  go_wp2_with fail
  refine (step_Name.calls ⟨#[82, 111, 108, 108]⟩ false _ (by decide +kernel)).mono ?_
  rintro e w22 ⟨rfl, hb⟩
  have hbb := hb; clear hb
  have HB' := Aside0.mk (below_then HB.out HB.out.size hbb); clear HB; have HB := HB'; clear HB'
  clear hbb
  go_wp2_with fail
  refine (step_Name.calls ⟨#[97, 98, 99, 100, 101, 102, 103, 104, 105]⟩ false _ (by decide +kernel)).mono ?_
  rintro e w23 ⟨rfl, hb⟩
  have hbb := hb; clear hb
  have HB' := Aside0.mk (below_then HB.out HB.out.size hbb); clear HB; have HB := HB'; clear HB'
  clear hbb
  go_wp2
  go_ret
  exact ⟨rfl, HB.out⟩

end Go.Proofs.Ytnbcdbkhpdpjgaa.H
