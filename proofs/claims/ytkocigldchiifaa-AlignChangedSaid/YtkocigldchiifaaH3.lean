/- The distance of a pair of a table; what begins and ends a barrier; newTable, Distance. -/
import Derived.Test.YtkocigldchiifaaH2
namespace Go.Proofs.Ytkocigldchiifaa.H
open Go.RowKit Go.Proofs.YtkocigldchiifaaW.PrintWords Go.Proofs.YtkocigldchiifaaW.PrintLast Go.Proofs.YtkocigldchiifaaW.PrintMore
open Go.Shelf Go.Proofs.Ytkocigldchiifaa.QA
set_option linter.unusedVariables false
set_option linter.unusedSimpArgs false

set_option maxHeartbeats 4000000 in
set_option maxRecDepth 100000 in
theorem far_calls (g : Nat) (a b : List S59) (i k : Int) (w : World) (h : Tb w g a b) (hR : Rolls a b) (hi0 : 0 ≤ i) (hi1 : i < a.length) (hk0 : 0 ≤ k) (hk1 : k < b.length) :
  Calls Try.prog 47 #[.pointer (some ⟨g, 0, none⟩), .agg #[.int .i64 i, .int .i64 k]] w fun e w' => e = .returned (.int .i64 (farD (rd_T59 a i) (rd_T59 b k))) ∧ Below w.heap.size w w' := by
 have hu25 := Try.underlying25
 have hu59 := Try.underlying59
 have hlt := h.lt
 have hgx : goodB (rd_T59 a i) = true := hR.ga _ (by unfold rd_T59; rw [List.getD_eq_getElem?_getD, List.getElem?_eq_getElem (show i.toNat < a.length by omega)]; exact List.getElem_mem _)
 have hgy : goodB (rd_T59 b k) = true := hR.gb _ (by unfold rd_T59; rw [List.getD_eq_getElem?_getD, List.getElem?_eq_getElem (show k.toNat < b.length by omega)]; exact List.getElem_mem _)
 obtain ⟨A0, c0, A1, c1, h1, hCa, hCb⟩ := h
 have hb := below_alloc (Below.refl w.heap.size w) (.cells #[.int .i64 i, .int .i64 k] 25)
 have bp := blk_new w (.cells #[.int .i64 i, .int .i64 k] 25)
 have BT := Aside0.mk (blk_below h1 hb)
 have BP := Aside0.mk bp
 obtain ⟨ax, rfl, x0, x1, x2⟩ := at_T59 (Kd.C_below hCa hb) i hi0 hi1
 obtain ⟨ay, rfl, y0, y1, y2⟩ := at_T59 (Kd.C_below hCb hb) k hk0 hk1
 have HX := Aside0.mk (And.intro x0 (And.intro x1 x2))
 have HY := Aside0.mk (And.intro y0 (And.intro y1 y2))
 have HB := Aside0.mk hb
 have HG := Aside0.mk (And.intro hgx hgy)
 clear x0 x1 x2 y0 y1 y2 hb bp h1 hCa hCb hlt hgx hgy hR
 generalize rd_T59 a i = x at HX HG ⊢
 generalize rd_T59 b k = y at HY HG ⊢
 obtain ⟨e0, e1, e2⟩ := x
 obtain ⟨d0, d1, d2⟩ := y
 dsimp only at HX HY
 obtain ⟨r, hr⟩ : ∃ r, r = farD ⟨e0, e1, e2⟩ ⟨d0, d1, d2⟩ := ⟨_, rfl⟩
 rw [← hr]
 unfold farD at hr
 dsimp only at hr
 have HRR := Aside0.mk hr
 clear hr
 go_enter Try.func47, Try.ntmps47
 go_upto_region 1 with fail
 replace BT := Aside0.mk (blk_drew BT.out)
 replace BP := Aside0.mk (blk_drew BP.out)
 replace HB := Aside0.mk (below_drew1 HB.out)
 obtain ⟨x0, x1, x2⟩ := HX.out
 obtain ⟨y0, y1, y2⟩ := HY.out
 have z0 : (w.alloc (.cells #[.int .i64 i, .int .i64 k] 25)).drew.cell? _ = _ := x0
 have z1 : (w.alloc (.cells #[.int .i64 i, .int .i64 k] 25)).drew.cell? _ = _ := x1
 have z2 : (w.alloc (.cells #[.int .i64 i, .int .i64 k] 25)).drew.cell? _ = _ := x2
 have z3 : (w.alloc (.cells #[.int .i64 i, .int .i64 k] 25)).drew.cell? _ = _ := y0
 have z4 : (w.alloc (.cells #[.int .i64 i, .int .i64 k] 25)).drew.cell? _ = _ := y1
 have z5 : (w.alloc (.cells #[.int .i64 i, .int .i64 k] 25)).drew.cell? _ = _ := y2
 clear x0 x1 x2 y0 y1 y2 HX HY
 have HSF := Aside0.mk (And.intro (blk_cell BT.out 0) (And.intro (blk_cell BT.out 1) (And.intro (blk_cell BP.out 0) (And.intro (blk_cell BP.out 1) (And.intro z0 (And.intro z1 (And.intro z2 (And.intro z3 (And.intro z4 z5)))))))))
 clear z0 z1 z2 z3 z4 z5
 have HS0 := Aside0.mk (show (w.alloc (.cells #[.int .i64 i, .int .i64 k] 25)).drew.cell? ⟨g, 0, none⟩ = some (.slice (some ax) a.length c0) ∧ (w.alloc (.cells #[.int .i64 i, .int .i64 k] 25)).drew.cell? ⟨g, 1, none⟩ = some (.slice (some ay) b.length c1) ∧ (w.alloc (.cells #[.int .i64 i, .int .i64 k] 25)).drew.cell? ⟨w.heap.size, 0, none⟩ = some (.int .i64 i) ∧ (w.alloc (.cells #[.int .i64 i, .int .i64 k] 25)).drew.cell? ⟨w.heap.size, 1, none⟩ = some (.int .i64 k) ∧ (w.alloc (.cells #[.int .i64 i, .int .i64 k] 25)).drew.cell? (ax.add (i.toNat * 3)) = some (.int .i64 e0) ∧ (w.alloc (.cells #[.int .i64 i, .int .i64 k] 25)).drew.cell? ⟨(ax.add (i.toNat * 3)).block, (ax.add (i.toNat * 3)).off + 1, none⟩ = some (.int .i64 e1) ∧ (w.alloc (.cells #[.int .i64 i, .int .i64 k] 25)).drew.cell? ⟨(ax.add (i.toNat * 3)).block, (ax.add (i.toNat * 3)).off + 2, none⟩ = some (.int .i64 e2) ∧ (w.alloc (.cells #[.int .i64 i, .int .i64 k] 25)).drew.cell? (ay.add (k.toNat * 3)) = some (.int .i64 d0) ∧ (w.alloc (.cells #[.int .i64 i, .int .i64 k] 25)).drew.cell? ⟨(ay.add (k.toNat * 3)).block, (ay.add (k.toNat * 3)).off + 1, none⟩ = some (.int .i64 d1) ∧ (w.alloc (.cells #[.int .i64 i, .int .i64 k] 25)).drew.cell? ⟨(ay.add (k.toNat * 3)).block, (ay.add (k.toNat * 3)).off + 2, none⟩ = some (.int .i64 d2) from by
  obtain ⟨s0, s1, s2, s3, s4⟩ := HSF.out
  exact ⟨s0.trans rfl, s1.trans rfl, s2.trans rfl, s3.trans rfl, s4⟩)
 have hSX : ∀ W' : World, Below (w.alloc (.cells #[.int .i64 i, .int .i64 k] 25)).drew.heap.size (w.alloc (.cells #[.int .i64 i, .int .i64 k] 25)).drew W' → W'.cell? ⟨g, 0, none⟩ = some (.slice (some ax) a.length c0) ∧ W'.cell? ⟨g, 1, none⟩ = some (.slice (some ay) b.length c1) ∧ W'.cell? ⟨w.heap.size, 0, none⟩ = some (.int .i64 i) ∧ W'.cell? ⟨w.heap.size, 1, none⟩ = some (.int .i64 k) ∧ W'.cell? (ax.add (i.toNat * 3)) = some (.int .i64 e0) ∧ W'.cell? ⟨(ax.add (i.toNat * 3)).block, (ax.add (i.toNat * 3)).off + 1, none⟩ = some (.int .i64 e1) ∧ W'.cell? ⟨(ax.add (i.toNat * 3)).block, (ax.add (i.toNat * 3)).off + 2, none⟩ = some (.int .i64 e2) ∧ W'.cell? (ay.add (k.toNat * 3)) = some (.int .i64 d0) ∧ W'.cell? ⟨(ay.add (k.toNat * 3)).block, (ay.add (k.toNat * 3)).off + 1, none⟩ = some (.int .i64 d1) ∧ W'.cell? ⟨(ay.add (k.toNat * 3)).block, (ay.add (k.toNat * 3)).off + 2, none⟩ = some (.int .i64 d2) := fun W' hb => by
  obtain ⟨s0, s1, s2, s3, s4, s5, s6, s7, s8, s9⟩ := HS0.out
  exact ⟨(hb.cell (World.block_lt_of_cell? _ _ s0)).trans s0, (hb.cell (World.block_lt_of_cell? _ _ s1)).trans s1, (hb.cell (World.block_lt_of_cell? _ _ s2)).trans s2, (hb.cell (World.block_lt_of_cell? _ _ s3)).trans s3, (hb.cell (World.block_lt_of_cell? _ _ s4)).trans s4, (hb.cell (World.block_lt_of_cell? _ _ s5)).trans s5, (hb.cell (World.block_lt_of_cell? _ _ s6)).trans s6, (hb.cell (World.block_lt_of_cell? _ _ s7)).trans s7, (hb.cell (World.block_lt_of_cell? _ _ s8)).trans s8, (hb.cell (World.block_lt_of_cell? _ _ s9)).trans s9⟩
 have HSX := Aside0.mk hSX
 clear hSX HSF
 refine start_ (n := 20) (S := fun w' => w'.cell? ⟨g, 0, none⟩ = some (.slice (some ax) a.length c0) ∧ w'.cell? ⟨g, 1, none⟩ = some (.slice (some ay) b.length c1) ∧ w'.cell? ⟨w.heap.size, 0, none⟩ = some (.int .i64 i) ∧ w'.cell? ⟨w.heap.size, 1, none⟩ = some (.int .i64 k) ∧ w'.cell? (ax.add (i.toNat * 3)) = some (.int .i64 e0) ∧ w'.cell? ⟨(ax.add (i.toNat * 3)).block, (ax.add (i.toNat * 3)).off + 1, none⟩ = some (.int .i64 e1) ∧ w'.cell? ⟨(ax.add (i.toNat * 3)).block, (ax.add (i.toNat * 3)).off + 2, none⟩ = some (.int .i64 e2) ∧ w'.cell? (ay.add (k.toNat * 3)) = some (.int .i64 d0) ∧ w'.cell? ⟨(ay.add (k.toNat * 3)).block, (ay.add (k.toNat * 3)).off + 1, none⟩ = some (.int .i64 d1) ∧ w'.cell? ⟨(ay.add (k.toNat * 3)).block, (ay.add (k.toNat * 3)).off + 2, none⟩ = some (.int .i64 d2)) (ds := []) #[false, false, false, false, false, false, false, false, false, false, false, false, false, false, false, false, false, false, false, false] (by kernel_rfl) rfl rfl HS0.out (fun hHeld => ?_)
 refine with_tabW far1_tab far1_bits (fun HT_ HW_ => ?_)
 generalize (w.alloc (.cells #[.int .i64 i, .int .i64 k] 25)).drew = wB at BT BP HB HS0 HSX hHeld ⊢
 generalize w.heap.size = B at BP HS0 HSX hHeld ⊢
 refine pure_ (i := 0) (N := some 7) (v := ?_) (a' := ?_) #[true, false, false, false, false, false, false, false, false, false, false, false, false, false, false, false, false, false, false, false] rfl rfl (any_of HT_.out (by kernel_rfl)) (fun _ _ _ h => h) (Or.inl ⟨by rfl, ?_⟩) ?_ ?_
 rotate_left
 · intro w'
   go_simp
   with_reducible rfl
 rotate_left
 · simp only [Act.put, List.setIfInBounds_toArray, List.set_cons_zero, List.set_cons_succ, i64_w, i32_w]
   rfl
 refine pure_ (i := 1) (N := some 8) (v := ?_) (a' := ?_) #[true, true, false, false, false, false, false, false, false, false, false, false, false, false, false, false, false, false, false, false] rfl rfl (any_of HT_.out (by kernel_rfl)) (fun _ _ _ h => h) (Or.inl ⟨by rfl, ?_⟩) ?_ ?_
 rotate_left
 · intro w'
   go_simp
   with_reducible rfl
 rotate_left
 · simp only [Act.put, List.setIfInBounds_toArray, List.set_cons_zero, List.set_cons_succ, i64_w, i32_w]
   rfl
 refine pure_ (i := 2) (N := some 9) (v := ?_) (a' := ?_) #[true, true, true, false, false, false, false, false, false, false, false, false, false, false, false, false, false, false, false, false] rfl rfl (any_of HT_.out (by kernel_rfl)) (fun _ _ _ h => h) (Or.inl ⟨by rfl, ?_⟩) ?_ ?_
 rotate_left
 · intro w'
   go_simp
   with_reducible rfl
 rotate_left
 · simp only [Act.put, List.setIfInBounds_toArray, List.set_cons_zero, List.set_cons_succ, i64_w, i32_w]
   rfl
 refine take_ (i := 3) (N := some 10) (v := ?_) (a' := ?_) #[true, true, true, true, false, false, false, false, false, false, false, false, false, false, false, false, false, false, false, false] rfl rfl (take_ofW HT_.out HW_.out (by kernel_rfl)) (fun _ _ _ h => h) (Or.inl ⟨by rfl, ?_⟩) hHeld ?_ ?_
 rotate_left
 · rintro w' ⟨s0, s1, s2, s3, s4, s5, s6, s7, s8, s9⟩
   go_simp
   with_reducible rfl
 rotate_left
 · simp only [Act.put, List.setIfInBounds_toArray, List.set_cons_zero, List.set_cons_succ, i64_w, i32_w]
   rfl
 refine pure_ (i := 4) (N := some 11) (v := ?_) (a' := ?_) #[true, true, true, true, true, false, false, false, false, false, false, false, false, false, false, false, false, false, false, false] rfl rfl (any_of HT_.out (by kernel_rfl)) (fun _ _ _ h => h) (Or.inl ⟨by rfl, ?_⟩) ?_ ?_
 rotate_left
 · intro w'
   go_simp
   with_reducible rfl
 rotate_left
 · simp only [Act.put, List.setIfInBounds_toArray, List.set_cons_zero, List.set_cons_succ, i64_w, i32_w]
   rfl
 refine take_ (i := 5) (N := some 12) (v := ?_) (a' := ?_) #[true, true, true, true, true, true, false, false, false, false, false, false, false, false, false, false, false, false, false, false] rfl rfl (take_ofW HT_.out HW_.out (by kernel_rfl)) (fun _ _ _ h => h) (Or.inl ⟨by rfl, ?_⟩) hHeld ?_ ?_
 rotate_left
 · rintro w' ⟨s0, s1, s2, s3, s4, s5, s6, s7, s8, s9⟩
   go_simp
   with_reducible rfl
 rotate_left
 · simp only [Act.put, List.setIfInBounds_toArray, List.set_cons_zero, List.set_cons_succ, i64_w, i32_w]
   rfl
 refine pure_ (i := 6) (N := some 13) (v := ?_) (a' := ?_) #[true, true, true, true, true, true, true, false, false, false, false, false, false, false, false, false, false, false, false, false] rfl rfl (any_of HT_.out (by kernel_rfl)) (fun _ _ _ h => h) (Or.inl ⟨by rfl, ?_⟩) ?_ ?_
 rotate_left
 · intro w'
   go_simp
   with_reducible rfl
 rotate_left
 · simp only [Act.put, List.setIfInBounds_toArray, List.set_cons_zero, List.set_cons_succ, i64_w, i32_w]
   rfl
 refine take_ (i := 7) (N := some 14) (v := ?_) (a' := ?_) #[true, true, true, true, true, true, true, true, false, false, false, false, false, false, false, false, false, false, false, false] rfl rfl (take_ofW HT_.out HW_.out (by kernel_rfl)) (fun _ _ _ h => h) (Or.inl ⟨by rfl, ?_⟩) hHeld ?_ ?_
 rotate_left
 · rintro w' ⟨s0, s1, s2, s3, s4, s5, s6, s7, s8, s9⟩
   go_simp
   with_reducible rfl
 rotate_left
 · simp only [Act.put, List.setIfInBounds_toArray, List.set_cons_zero, List.set_cons_succ, i64_w, i32_w]
   rfl
 refine pure_ (i := 8) (N := some 15) (v := ?_) (a' := ?_) #[true, true, true, true, true, true, true, true, true, false, false, false, false, false, false, false, false, false, false, false] rfl rfl (any_of HT_.out (by kernel_rfl)) (fun _ _ _ h => h) (Or.inl ⟨by rfl, ?_⟩) ?_ ?_
 rotate_left
 · intro w'
   go_simp
   with_reducible rfl
 rotate_left
 · simp only [Act.put, List.setIfInBounds_toArray, List.set_cons_zero, List.set_cons_succ, i64_w, i32_w]
   rfl
 refine pure_ (i := 9) (N := some 16) (v := ?_) (a' := ?_) #[true, true, true, true, true, true, true, true, true, true, false, false, false, false, false, false, false, false, false, false] rfl rfl (any_of HT_.out (by kernel_rfl)) (fun _ _ _ h => h) (Or.inl ⟨by rfl, ?_⟩) ?_ ?_
 rotate_left
 · intro w'
   go_simp
   with_reducible rfl
 rotate_left
 · simp only [Act.put, List.setIfInBounds_toArray, List.set_cons_zero, List.set_cons_succ, i64_w, i32_w]
   rfl
 refine pure_ (i := 10) (N := some 17) (v := ?_) (a' := ?_) #[true, true, true, true, true, true, true, true, true, true, true, false, false, false, false, false, false, false, false, false] rfl rfl (any_of HT_.out (by kernel_rfl)) (fun _ _ _ h => h) (Or.inl ⟨by rfl, ?_⟩) ?_ ?_
 rotate_left
 · intro w'
   go_simp
   with_reducible rfl
 rotate_left
 · simp only [Act.put, List.setIfInBounds_toArray, List.set_cons_zero, List.set_cons_succ, i64_w, i32_w]
   rfl
 refine take_ (i := 11) (N := some 18) (v := ?_) (a' := ?_) #[true, true, true, true, true, true, true, true, true, true, true, true, false, false, false, false, false, false, false, false] rfl rfl (take_ofW HT_.out HW_.out (by kernel_rfl)) (fun _ _ _ h => h) (Or.inl ⟨by rfl, ?_⟩) hHeld ?_ ?_
 rotate_left
 · rintro w' ⟨s0, s1, s2, s3, s4, s5, s6, s7, s8, s9⟩
   go_simp
   with_reducible rfl
 rotate_left
 · simp only [Act.put, List.setIfInBounds_toArray, List.set_cons_zero, List.set_cons_succ, i64_w, i32_w]
   rfl
 refine pure_ (i := 12) (N := some 19) (v := ?_) (a' := ?_) #[true, true, true, true, true, true, true, true, true, true, true, true, true, false, false, false, false, false, false, false] rfl rfl (any_of HT_.out (by kernel_rfl)) (fun _ _ _ h => h) (Or.inl ⟨by rfl, ?_⟩) ?_ ?_
 rotate_left
 · intro w'
   go_simp
   with_reducible rfl
 rotate_left
 · simp only [Act.put, List.setIfInBounds_toArray, List.set_cons_zero, List.set_cons_succ, i64_w, i32_w]
   rfl
 refine take_ (i := 13) (N := some 20) (v := ?_) (a' := ?_) #[true, true, true, true, true, true, true, true, true, true, true, true, true, true, false, false, false, false, false, false] rfl rfl (take_ofW HT_.out HW_.out (by kernel_rfl)) (fun _ _ _ h => h) (Or.inl ⟨by rfl, ?_⟩) hHeld ?_ ?_
 rotate_left
 · rintro w' ⟨s0, s1, s2, s3, s4, s5, s6, s7, s8, s9⟩
   go_simp
   with_reducible rfl
 rotate_left
 · simp only [Act.put, List.setIfInBounds_toArray, List.set_cons_zero, List.set_cons_succ, i64_w, i32_w]
   rfl
 refine pure_ (i := 14) (N := some 21) (v := ?_) (a' := ?_) #[true, true, true, true, true, true, true, true, true, true, true, true, true, true, true, false, false, false, false, false] rfl rfl (any_of HT_.out (by kernel_rfl)) (fun _ _ _ h => h) (Or.inl ⟨by rfl, ?_⟩) ?_ ?_
 rotate_left
 · intro w'
   go_simp
   with_reducible rfl
 rotate_left
 · simp only [Act.put, List.setIfInBounds_toArray, List.set_cons_zero, List.set_cons_succ, i64_w, i32_w]
   rfl
 refine take_ (i := 15) (N := some 22) (v := ?_) (a' := ?_) #[true, true, true, true, true, true, true, true, true, true, true, true, true, true, true, true, false, false, false, false] rfl rfl (take_ofW HT_.out HW_.out (by kernel_rfl)) (fun _ _ _ h => h) (Or.inl ⟨by rfl, ?_⟩) hHeld ?_ ?_
 rotate_left
 · rintro w' ⟨s0, s1, s2, s3, s4, s5, s6, s7, s8, s9⟩
   go_simp
   with_reducible rfl
 rotate_left
 · simp only [Act.put, List.setIfInBounds_toArray, List.set_cons_zero, List.set_cons_succ, i64_w, i32_w]
   rfl
 refine far1 _ wB e0 e1 e2 d0 d1 d2 rfl rfl rfl HSX.out ?_
 intro g0 g1 wC hb hge hne b0 b1
 clear HT_ HW_ hHeld HSX HS0 BT BP
 have HW := Aside0.mk (below_then HB.out HB.out.size hb)
 have B0 := Aside0.mk b0
 have B1 := Aside0.mk b1
 clear hb hge hne b0 b1
 simp only [putAll, Act.put, List.setIfInBounds_toArray, List.set_cons_zero, List.set_cons_succ]
 have q0 : wC.cell? ⟨g0, 0, none⟩ = some (.int .i64 e0) := (blk_cell B0.out 0).trans rfl
 have q1 : wC.cell? ⟨g0, 1, none⟩ = some (.int .i64 e1) := (blk_cell B0.out 1).trans rfl
 have q2 : wC.cell? ⟨g0, 2, none⟩ = some (.int .i64 e2) := (blk_cell B0.out 2).trans rfl
 have q3 : wC.cell? ⟨g1, 0, none⟩ = some (.int .i64 d0) := (blk_cell B1.out 0).trans rfl
 have q4 : wC.cell? ⟨g1, 1, none⟩ = some (.int .i64 d1) := (blk_cell B1.out 1).trans rfl
 have q5 : wC.cell? ⟨g1, 2, none⟩ = some (.int .i64 d2) := (blk_cell B1.out 2).trans rfl
 have hr := HRR.out
 by_cases he : e0 = d0
 · have u1 : (e0 != d0) = false := by simp [he]
   rw [if_pos he] at hr
   have HH := Aside0.mk hr
   clear hr he HRR
   go_upto_region 4 with fail
   go_quiet ((go_at_call 70; (with_reducible refine (apart_calls _ _ _ (by have := good_in HG.out.1; have := good_in HG.out.2; simp only at *; omega) (by have := good_in HG.out.1; have := good_in HG.out.2; simp only at *; omega)).mono ?_); rintro e w' ⟨rfl, rfl⟩; exact ⟨rfl, _, rfl⟩))
   go_wp2
   go_ret
   refine ⟨?_, pw_below_drewN HW.out _⟩
   have g1 := (good_in HG.out.1).2
   have g2 := (good_in HG.out.2).2
   dsimp only at g1 g2
   have h1 := apartD_in e1 d1 1000 (by omega) (by omega)
   have h2 := apartD_in e2 d2 1000 (by omega) (by omega)
   rw [HH.out]
   first | rfl | (rw [w64' _ (by omega) (by omega)]; rfl) | (show Ending.returned (.int .i64 (wrap64 _)) = _; rw [w64' _ (by omega) (by omega)])
 · have u1 : (e0 != d0) = true := by simp [he]
   rw [if_neg he] at hr
   clear HRR
   subst hr
   clear he
   go_wp2
   go_ret
   exact ⟨rfl, HW.out⟩

set_option maxRecDepth 100000 in
/-- newTable: a table .. -/
theorem newTable_ok (A0 : Option Addr) (c0 : Nat) (a : List S59) (A1 : Option Addr) (c1 : Nat) (b : List S59) (w : World) (hr0 : Kd.C k59 w A0 a.length a) (hc0 : a.length ≤ c0) (hr1 : Kd.C k59 w A1 b.length b) (hc1 : b.length ≤ c1) (h : align_Check.f a b = some 0) :
  Calls Try.prog 45 #[.slice A0 a.length c0, .slice A1 b.length c1] w fun e w' => ∃ g, e = .returned (.tuple #[.pointer (some ⟨g, 0, none⟩), .int .i64 0]) ∧ Tb w' g a b ∧ w.heap.size ≤ g ∧ Below w.heap.size w w' := by
 have HR := rolls_of h
 have ha := HR.ha
 have hb := HR.hb
 have HR0 := Aside0.mk hr0
 have HR1 := Aside0.mk hr1
 have HC := Aside0.mk (And.intro hc0 hc1)
 have H := Aside0.mk h
 clear hr0 hr1 HR hc0 hc1 h
 go_enter Try.func45, Try.ntmps45
 go_wp2_with (go_at_call 24; refine (align_Check.calls A0 c0 a A1 c1 b 0 _ HR0.out HC.out.1 HR1.out HC.out.2 H.out).mono ?_; rintro e w1 ⟨rfl, hb⟩; have HB := Aside0.mk hb; clear hb)
 go_ret2
 have hbb := below_then HB.out HB.out.size (below_alloc (Below.refl _ _) (.cells #[.slice A0 a.length c0, .slice A1 b.length c1, .int .i64 ((a.length : Int) - 1), .int .i64 ((b.length : Int) - 1)] 92))
 exact ⟨w1.heap.size, rfl, ⟨A0, c0, A1, c1, blk_new w1 _, Kd.C_below HR0.out hbb, Kd.C_below HR1.out hbb⟩, HB.out.size, hbb⟩
set_option maxRecDepth 100000 in
/-- .. or an error. -/
theorem newTable_no (A0 : Option Addr) (c0 : Nat) (a : List S59) (A1 : Option Addr) (c1 : Nat) (b : List S59) (r : Int) (w : World) (hr0 : Kd.C k59 w A0 a.length a) (hc0 : a.length ≤ c0) (hr1 : Kd.C k59 w A1 b.length b) (hc1 : b.length ≤ c1) (h : align_Check.f a b = some r) (hr : r ≠ 0) :
  Calls Try.prog 45 #[.slice A0 a.length c0, .slice A1 b.length c1] w fun e w' => e = .returned (.tuple #[.pointer none, .int .i64 r]) ∧ Below w.heap.size w w' := by
 have hrb : (r != 0) = true := by simp [hr]
 have HR0 := Aside0.mk hr0
 have HR1 := Aside0.mk hr1
 have HC := Aside0.mk (And.intro hc0 hc1)
 have H := Aside0.mk h
 clear hr0 hr1 hc0 hc1 h hr
 go_enter Try.func45, Try.ntmps45
 go_wp2_with (go_at_call 24; refine (align_Check.calls A0 c0 a A1 c1 b r _ HR0.out HC.out.1 HR1.out HC.out.2 H.out).mono ?_; rintro e w1 ⟨rfl, hb⟩; have HB := Aside0.mk hb; clear hb)
 go_ret2
 exact ⟨rfl, HB.out⟩
def align_Distance.f (l0 l1 : List S59) (p0 p1 : Int) : Option (Int × Int) := (align_Check.f l0 l1).bind fun e => some (if e = 0 then (if hasP l0 l1 p0 p1 = true then (farD (rd_T59 l0 p0) (rd_T59 l1 p1), 0) else (0, 8)) else (0, e))
set_option maxRecDepth 100000 in
theorem align_Distance.calls (A0 : Option Addr) (c0 : Nat) (l0 : List S59) (A1 : Option Addr) (c1 : Nat) (l1 : List S59) (a2_0 a2_1 : Int) (r1 r2 : Int) (w : World) (hr0 : Kd.C k59 w A0 l0.length l0) (hc0 : l0.length ≤ c0) (hr1 : Kd.C k59 w A1 l1.length l1) (hc1 : l1.length ≤ c1) (h : align_Distance.f l0 l1 a2_0 a2_1 = some (r1, r2)) :
  Calls Try.prog 17 #[.slice A0 l0.length c0, .slice A1 l1.length c1, .agg #[.int .i64 a2_0, .int .i64 a2_1]] w fun e w' => e = .returned (.tuple #[.int .i64 r1, .int .i64 r2]) ∧ Below w.heap.size w w' := by
 have hu25 := Try.underlying25
 unfold align_Distance.f at h
 obtain ⟨e, he, h⟩ := Option.bind_eq_some_iff.1 h
 have HR0 := Aside0.mk (Kd.C_alloc hr0 (.cells #[.int .i64 a2_0, .int .i64 a2_1] 25))
 have HR1 := Aside0.mk (Kd.C_alloc hr1 (.cells #[.int .i64 a2_0, .int .i64 a2_1] 25))
 have HE := Aside0.mk he
 have HC := Aside0.mk (And.intro hc0 hc1)
 have BP := Aside0.mk (blk_new w (.cells #[.int .i64 a2_0, .int .i64 a2_1] 25))
 have h1 := Option.some.inj h
 clear h he hr0 hr1 hc0 hc1
 by_cases h0 : e = 0
 · subst h0
   rw [if_pos rfl] at h1
   have HO := Aside0.mk (rolls_of HE.out)
   cases hp : hasP l0 l1 a2_0 a2_1 with
   | true =>
    rw [hp, if_pos rfl] at h1
    obtain ⟨rfl, rfl⟩ := Prod.mk.inj h1
    have HP := Aside0.mk hp
    have HI := Aside0.mk ((hasP_iff l0 l1 a2_0 a2_1).1 hp)
    clear h1 hp
    go_enter Try.func17, Try.ntmps17
    go_wp2_with fail
    refine (newTable_ok A0 c0 l0 A1 c1 l1 _ HR0.out HC.out.1 HR1.out HC.out.2 HE.out).mono ?_
    rintro e w1 ⟨g, rfl, hT, _, hb⟩
    have HT := Aside0.mk hT
    have y0 : w1.cell? ⟨w.heap.size, 0, none⟩ = some (.int .i64 a2_0) := (blk_cell (blk_below BP.out hb) 0).trans rfl
    have y1 : w1.cell? ⟨w.heap.size, 1, none⟩ = some (.int .i64 a2_1) := (blk_cell (blk_below BP.out hb) 1).trans rfl
    have HB := Aside0.mk (below_then (below_alloc (Below.refl w.heap.size w) _) (by simp) hb)
    have BP1 := Aside0.mk (blk_below BP.out hb)
    clear hT hb
    go_wp2_with fail
    refine (has_calls g l0 l1 a2_0 a2_1 _ HT.out).mono ?_
    rintro e w2 ⟨rfl, hb⟩
    rw [HP.out]
    replace HT := Aside0.mk (HT.out.below hb)
    replace HB := Aside0.mk (below_then HB.out HB.out.size hb)
    replace BP1 := Aside0.mk (blk_below BP1.out hb)
    clear hb y0 y1
    have y0 : w2.cell? ⟨w.heap.size, 0, none⟩ = some (.int .i64 a2_0) := (blk_cell BP1.out 0).trans rfl
    have y1 : w2.cell? ⟨w.heap.size, 1, none⟩ = some (.int .i64 a2_1) := (blk_cell BP1.out 1).trans rfl
    go_wp2_with fail
    refine (far_calls g l0 l1 a2_0 a2_1 _ HT.out HO.out HI.out.1.1 HI.out.1.2 HI.out.2.1 HI.out.2.2).mono ?_
    rintro e w3 ⟨rfl, hb⟩
    replace HB := Aside0.mk (below_then HB.out HB.out.size hb)
    clear hb
    go_wp2
    go_ret2
    exact ⟨rfl, HB.out⟩
   | false =>
    rw [hp, if_neg (by simp)] at h1
    obtain ⟨rfl, rfl⟩ := Prod.mk.inj h1
    have HP := Aside0.mk hp
    clear h1 hp
    go_enter Try.func17, Try.ntmps17
    go_wp2_with fail
    refine (newTable_ok A0 c0 l0 A1 c1 l1 _ HR0.out HC.out.1 HR1.out HC.out.2 HE.out).mono ?_
    rintro e w1 ⟨g, rfl, hT, _, hb⟩
    have HT := Aside0.mk hT
    have y0 : w1.cell? ⟨w.heap.size, 0, none⟩ = some (.int .i64 a2_0) := (blk_cell (blk_below BP.out hb) 0).trans rfl
    have y1 : w1.cell? ⟨w.heap.size, 1, none⟩ = some (.int .i64 a2_1) := (blk_cell (blk_below BP.out hb) 1).trans rfl
    have HB := Aside0.mk (below_then (below_alloc (Below.refl w.heap.size w) _) (by simp) hb)
    clear hT hb
    go_wp2_with fail
    refine (has_calls g l0 l1 a2_0 a2_1 _ HT.out).mono ?_
    rintro e w2 ⟨rfl, hb⟩
    rw [HP.out]
    replace HB := Aside0.mk (below_then HB.out HB.out.size hb)
    clear hb y0 y1
    go_wp2
    go_ret2
    exact ⟨rfl, HB.out⟩
 · rw [if_neg h0] at h1
   obtain ⟨rfl, rfl⟩ := Prod.mk.inj h1
   have hb0 : (e != 0) = true := by simp [h0]
   have H0 := Aside0.mk h0
   clear h1 h0
   go_enter Try.func17, Try.ntmps17
   go_wp2_with fail
   refine (newTable_no A0 c0 l0 A1 c1 l1 e _ HR0.out HC.out.1 HR1.out HC.out.2 HE.out H0.out).mono ?_
   rintro e w1 ⟨rfl, hb⟩
   have HB := Aside0.mk (below_then (below_alloc (Below.refl w.heap.size w) _) (by simp) hb)
   clear hb
   go_wp2
   go_ret2
   exact ⟨rfl, HB.out⟩

end Go.Proofs.Ytkocigldchiifaa.H
