/- Texts HU of this chapter, one behind the other. -/
import Derived.Carry
import Derived.LoopIn
import Derived.LoopNIn
import Derived.OwnWalkIn
import Derived.TacticsInMore
import Derived.Test.YtkocigldchiifaaXH
import Derived.Test.YtkocigldchiifaaXI
import Derived.Test.YtkocigldchiifaaXJ

/- crossed: whether all walks meet a pair of a barrier. -/
namespace Go.Proofs.Ytkocigldchiifaa.H
open Go.RowKit Go.Proofs.YtkocigldchiifaaW.PrintWords Go.Proofs.YtkocigldchiifaaW.PrintLast Go.Proofs.YtkocigldchiifaaW.PrintMore
open Go.Shelf Go.Proofs.Ytkocigldchiifaa.QA
set_option linter.unusedVariables false
set_option linter.unusedSimpArgs false

theorem upNat (i : Nat) (h : i ≤ 1000000) : wrap64 ((i : Int) + 1) = ((i + 1 : Nat) : Int) := by rw [w64' _ (by omega) (by omega)]; rfl
theorem upMeas (m k : Nat) (h : k < m) : m - (((k + 1 : Nat) : Int)).toNat < m - ((k : Int)).toNat := by omega
theorem wall_snoc (l : List S25) (i : Nat) (x y : Nat) (hi : i < l.length) (hp : rd_T25 l (i : Int) = ⟨(x : Int), (y : Int)⟩) (r k : Nat) : wallB (l.take (i + 1)) r k = if r = x ∧ k = y then true else wallB (l.take i) r k := by
 unfold wallB
 have hg : l[i]? = some (⟨(x : Int), (y : Int)⟩ : S25) := by
  rw [← hp]
  unfold rd_T25
  rw [Int.toNat_natCast, List.getD_eq_getElem?_getD, List.getElem?_eq_getElem hi]
  rfl
 rw [List.take_add_one, hg, List.any_append]
 show (_ || ([(⟨(x : Int), (y : Int)⟩ : S25)].any fun q => q.f0 == (r : Int) && q.f1 == (k : Int))) = _
 by_cases e : r = x ∧ k = y
 · rw [if_pos e, e.1, e.2]; simp
 · rw [if_neg e]
   have h2 : ([(⟨(x : Int), (y : Int)⟩ : S25)].any fun q => q.f0 == (r : Int) && q.f1 == (k : Int)) = false := by
    rw [List.any_eq_false]
    intro q hq
    rw [List.mem_singleton.1 hq]
    simp only [Bool.and_eq_true, beq_iff_eq]
    omega
   rw [h2, Bool.or_false]
def crs10_T : Bool × List (List Nat × List Nat) := (true, [([], []), ([0], [0]), ([1], [1]), ([2], [2]), ([3], [3]), ([4, 3], [3, 4]), ([3], [3]), ([6, 3], [3, 6]), ([5, 7, 3], [3, 5, 7]), ([3, 8], [3, 8]), ([9, 3], [9]), ([10], [10]), ([11, 10], [10, 11]), ([12, 10], [10, 12]), ([10, 13], [10, 13]), ([14, 10], [14]), ([15], [15]), ([16, 15], [15, 16]), ([15], [15]), ([18, 15], [15, 18]), ([17, 19, 15], [15, 17, 19]), ([15, 20], [15, 20]), ([21, 15], [21]), ([22], [22]), ([22], [22]), ([24, 22], [22, 24]), ([23, 25, 22], [22, 23, 25]), ([26, 22], [22, 26]), ([22], [22]), ([22], [22]), ([29, 22], [22, 29]), ([28, 30, 22], [22, 28, 30]), ([31, 22], [22, 31]), ([27, 32, 22, 22], [22, 27, 32]), ([22], [22]), ([33, 34, 22], [22, 33, 34]), ([22, 35], [22, 35])])
def crs10_B : List Nat := [0, 1, 3, 7, 15, 31, 15, 79, 255, 511, 1023, 2047, 4095, 8191, 16383, 32767, 65535, 131071, 65535, 327679, 1048575, 2097151, 4194303, 8388607, 8388607, 25165823, 67108863, 134217727, 8388607, 8388607, 545259519, 1887436799, 4034920447, 8589934591, 8388607, 34359738367, 68719476735]
theorem crs10_tab : rtab .any (opsOf Try.f38 10) = crs10_T := by kernel_rfl
theorem crs10_bits : waitsOk crs10_T.2 crs10_B = true := by kernel_rfl
def crs12_T : Bool × List (List Nat × List Nat) := (true, [([], []), ([], []), ([1], [1]), ([0, 2], [0, 2]), ([3], [3]), ([], []), ([5], [5]), ([4, 6, 0, 1, 2, 3, 4, 5, 6], [4, 6]), ([7, 0, 1, 2, 3, 4, 5, 6], [7])])
def crs12_B : List Nat := [0, 0, 2, 7, 15, 0, 32, 127, 255]
theorem crs12_tab : rtab .any (opsOf Try.f38 12) = crs12_T := by kernel_rfl
theorem crs12_bits : waitsOk crs12_T.2 crs12_B = true := by kernel_rfl

set_option maxRecDepth 100000 in
set_option maxHeartbeats 16000000 in
theorem crossed_ok (A0 : Option Addr) (c0 : Nat) (a : List S59) (A1 : Option Addr) (c1 : Nat) (b : List S59) (n m : Nat) (hh : Int) (A3 : Option Addr) (c3 : Nat) (l : List S25) (w : World) (hn : n = a.length) (hm : m = b.length) (hr0 : Kd.C k59 w A0 n a) (hc0 : n ≤ c0) (hr1 : Kd.C k59 w A1 m b) (hc1 : m ≤ c1) (hr3 : Kd.C k25 w A3 l.length l) (hc3 : l.length ≤ c3) (hl : l.length ≤ 5000) (hR : Rolls a b) (hb : BarOK a b hh l) :
  Calls Try.prog 38 #[.slice A0 n c0, .slice A1 m c1, .int .i64 hh, .slice A3 l.length c3] w fun e w' => e = .returned (.bool true) ∧ Below w.heap.size w w' := by
 have hu59 := Try.underlying59
 have hu25 := Try.underlying25
 have HN := Aside0.mk (show 1 ≤ n ∧ n ≤ 30 by have := hR.ha; omega)
 have HM0 := Aside0.mk (show 1 ≤ m ∧ m ≤ 30 by have := hR.hb; omega)
 have mk1 : ∀ W : World, (Instr.makeSlice 116 (.int .i64 (n : Int)) (.int .i64 (n : Int))).run Try.prog W = .ok (.slice (some ⟨W.heap.size, 0, none⟩) n n) (W.alloc (.cells (madeCells #[.slice none 0 0] n) 108)) := print_make_of 116 108 (.slice none 0 0) 24 Try.underlying116 info108 rfl (by decide) n (by have := HN.out; omega)
 have mk2 : ∀ W : World, (Instr.makeSlice 108 (.int .i64 (m : Int)) (.int .i64 (m : Int))).run Try.prog W = .ok (.slice (some ⟨W.heap.size, 0, none⟩) m m) (W.alloc (.cells (madeCells #[.bool false] m) 4)) := print_make_of 108 4 (.bool false) 1 Try.underlying108 info4 rfl (by decide) m (by have := HM0.out; omega)
 obtain ⟨N1, hN1⟩ : ∃ N1, N1 = n - 1 := ⟨_, rfl⟩
 obtain ⟨M1, hM1⟩ : ∃ M1, M1 = m - 1 := ⟨_, rfl⟩
 have e1 : wrap64 ((n : Int) - 1) = (N1 : Int) := by rw [w64' _ (by have := HN.out; omega) (by have := HN.out; omega)]; have := HN.out; omega
 have e2 : wrap64 ((m : Int) - 1) = (M1 : Int) := by rw [w64' _ (by have := HM0.out; omega) (by have := HM0.out; omega)]; have := HM0.out; omega
 have hnot : ¬ Met (wallB l) N1 M1 := by rw [hN1, hM1, hn, hm]; exact bar_met hb (by have := hR.ha; omega) (by have := hR.hb; omega)
 have HNOT := Aside0.mk hnot
 have HNM := Aside0.mk (And.intro hN1 hM1)
 have HBM := Aside0.mk hb.mem
 have HE1 := Aside0.mk (And.intro hn hm)
 have HR := Aside0.mk (And.intro hr0 (And.intro hr1 hr3))
 have HRo := Aside0.mk hR
 have HC := Aside0.mk (And.intro hc0 (And.intro hc1 hc3))
 have HLL := Aside0.mk hl
 have HST := Aside0.mk (Mt.start w w.heap.size n m 108 4 (fun _ => 0) (fun _ _ => .bool false) (Nat.le_refl _))
 have HBS := Aside0.mk (below_alloc (Below.refl w.heap.size w) (.cells (madeCells #[.slice none 0 0] n) 108))
 clear hn hm hr0 hr1 hr3 hc0 hc1 hc3 hR hb hN1 hM1 hl hnot
 go_enter Try.func38, Try.ntmps38
 go_wp2
 obtain ⟨g, hg⟩ : ∃ g, g = w.heap.size := ⟨_, rfl⟩
 obtain ⟨w1, hw1⟩ : ∃ W : World, W = w.alloc (.cells (madeCells #[.slice none 0 0] n) 108) := ⟨_, rfl⟩
 replace HST := Aside0.mk (show Mt w1 w.heap.size g n m 108 4 (fun _ => False) (fun _ => 0) (fun _ _ => .bool false) by rw [hw1, hg]; exact HST.out)
 replace HBS := Aside0.mk (show Below w.heap.size w w1 by rw [hw1]; exact HBS.out)
 rw [← hw1, ← hg]
 clear hw1
 have HG := Aside0.mk hg
 clear hg
 go_loopw [21] (fun s21 wr => ∃ (i : Nat) (B : Nat → Nat) (V : Nat → Nat → Value), s21 = .int .i64 i ∧ Aside0 (i ≤ n) ∧ Aside0 (Mt wr w.heap.size g n m 108 4 (fun r => r < i) B V) ∧ Aside0 (∀ r k : Nat, r < i → r < n → k < m → V r k = .bool false) ∧ Aside0 (Below w.heap.size w wr)) (fun s21 _ => n - (intOf s21).toNat)
 case atStart => exact ⟨0, fun _ => 0, fun _ _ => .bool false, rfl, ⟨Nat.zero_le _⟩, ⟨HST.out.congr (fun r hr => ⟨fun h => by omega, fun h => h.elim⟩) (fun r k _ h => h.elim)⟩, ⟨fun r k h1 h2 => by omega⟩, HBS⟩
 case round =>
  clear HST HBS
  obtain ⟨i, B, V, rfl, HJ, HM, HV, HB⟩ := hrel
  by_cases hj : i < n
  · have n1 : i < n := hj
    have hd : decide ((i : Int) < (n : Int)) = true := decide_eq_true (by omega)
    clear hj
    have hba := below_alloc (Below.refl wr.heap.size wr) (.cells (madeCells #[.bool false] m) 4)
    have hnew := blk_new wr (.cells (madeCells #[.bool false] m) 4)
    have HM1 := Aside0.mk (HM.out.below hba)
    have HB1 := Aside0.mk (HB.out.alloc HB.out.size (.cells (madeCells #[.bool false] m) 4))
    have k0 := HM1.out.nil0 i n1 (by omega)
    have k1 := HM1.out.fz0 i
    have HNW := Aside0.mk hnew
    have HLG := Aside0.mk HM.out.lt
    have HLB := Aside0.mk (show ∀ r, r < n → r < i → B r ≠ wr.heap.size from fun r hr hd e => by
     obtain ⟨T, _, h2, _⟩ := HM.out.row r hr hd
     have := blk_lt h2
     omega)
    have HSZ := Aside0.mk HB.out.size
    clear hba hnew HM HB
    go_wp2
    have HM2 := Aside0.mk (HM1.out.new i wr.heap.size (.bool false) n1 (by omega) HSZ.out (by have := HLG.out; omega) (fun r hr hd => HLB.out r hr hd) HNW.out)
    have HB2 := Aside0.mk (below_set (j := i) (v := .slice (some ⟨wr.heap.size, 0, none⟩) m m) HB1.out HM1.out.gb)
    clear k0 k1 HM1 HB1 HNW HLG HLB
    generalize ((wr.alloc (.cells (madeCells #[.bool false] m) 4)).setCell ⟨g, i, none⟩ (.slice (some ⟨wr.heap.size, 0, none⟩) m m)) = w2 at HM2 HB2 ⊢
    refine ⟨⟨i + 1, _, _, congrArg _ (upNat i (by have := HN.out; omega)), ⟨n1⟩, ⟨HM2.out.congr (fun r hr => ⟨fun h => by omega, fun h => by omega⟩) (fun _ _ _ _ _ => rfl)⟩, ⟨fun r k h1 h2 h3 => ?_⟩, HB2⟩, ?_⟩
    · by_cases e : r = i
      · rw [if_pos e]
      · rw [if_neg e]; exact HV.out r k (by omega) h2 h3
    · rw [upNat i (by have := HN.out; omega)]
      exact upMeas n i n1
  · obtain rfl : i = n := by have := HJ.out; omega
    have hd : decide ((i : Int) < (i : Int)) = false := decide_eq_false (by omega)
    clear hj
    rename World => wP
    have HMW := Aside0.mk (show Mt wP w.heap.size g i m 108 4 (fun _ => True) B V from HM.out.congr (fun r hr => ⟨fun _ => hr, fun _ => trivial⟩) (fun _ _ _ _ _ => rfl))
    have HVW := Aside0.mk (show ∀ r k : Nat, r < i → k < m → V r k = .bool (wallB (l.take 0) r k) from fun r k h1 h2 => by rw [HV.out r k h1 h1 h2]; rfl)
    clear HM HV
    go_wp2
    go_loopw [33] (fun s33 wr => ∃ (j : Nat) (V : Nat → Nat → Value), s33 = .int .i64 j ∧ Aside0 (j ≤ l.length) ∧ Aside0 (Mt wr w.heap.size g i m 108 4 (fun _ => True) B V) ∧ Aside0 (∀ r k : Nat, r < i → k < m → V r k = .bool (wallB (l.take j) r k)) ∧ Aside0 (Below w.heap.size w wr)) (fun s33 _ => l.length - (intOf s33).toNat)
    case atStart => exact ⟨0, V, rfl, ⟨Nat.zero_le _⟩, HMW, HVW, HB⟩
    case round =>
     clear HMW HVW HB hd
     clear V
     obtain ⟨j, V, rfl, HJ2, HMW, HVW, HB⟩ := hrel
     by_cases hj : j < l.length
     · have hd : decide ((j : Int) < (l.length : Int)) = true := decide_eq_true (by omega)
       have HJL := Aside0.mk hj
       obtain ⟨aq, rfl, p0, p1⟩ := at_T25 (Kd.C_below HR.out.2.2 HB.out) (j : Int) (Int.natCast_nonneg j) (Int.ofNat_lt.2 hj)
       have hpm : rd_T25 l (j : Int) ∈ l := by
        unfold rd_T25
        rw [Int.toNat_natCast, List.getD_eq_getElem?_getD, List.getElem?_eq_getElem hj]
        exact List.getElem_mem _
       obtain ⟨hpa, hpf⟩ := (mem_above a b hh _).1 (HBM.out _ hpm)
       obtain ⟨q1, q2⟩ := (hasP_iff a b _ _).1 hpa
       obtain ⟨x, hx⟩ : ∃ x : Nat, rd_T25 l (j : Int) = ⟨(x : Int), (rd_T25 l (j : Int)).f1⟩ := ⟨(rd_T25 l (j : Int)).f0.toNat, by rw [Int.toNat_of_nonneg q1.1]⟩
       obtain ⟨y, hy⟩ : ∃ y : Nat, rd_T25 l (j : Int) = ⟨(x : Int), (y : Int)⟩ := ⟨(rd_T25 l (j : Int)).f1.toNat, by rw [Int.toNat_of_nonneg q2.1]; exact hx⟩
       rw [hy] at p0 p1 hpf q1 q2
       have HPY := Aside0.mk hy
       dsimp only at p0 p1 hpf q1 q2
       rw [Int.toNat_natCast] at p0 p1
       have n5 : x < i := by have := HE1.out.1; omega
       have n6 : y < m := by have := HE1.out.2; omega
       have hgx := rd_good HRo.out.ga (x : Int) q1
       have hgy := rd_good HRo.out.gb (y : Int) q2
       have HDI := Aside0.mk (lawfar_f hgx hgy)
       have z1 : decide ((x : Int) < 0) = false := decide_eq_false (by omega)
       have z2 : decide ((x : Int) ≥ (i : Int)) = false := decide_eq_false (by omega)
       have z2' : decide ((i : Int) ≤ (x : Int)) = false := decide_eq_false (by omega)
       have z2n : ¬ i ≤ x := by omega
       have z4n : ¬ m ≤ y := by omega
       have z3 : decide ((y : Int) < 0) = false := decide_eq_false (by omega)
       have z4 : decide ((y : Int) ≥ (m : Int)) = false := decide_eq_false (by omega)
       have z4' : decide ((m : Int) ≤ (y : Int)) = false := decide_eq_false (by omega)
       obtain ⟨d, hd9⟩ : ∃ d, farD (rd_T59 a x) (rd_T59 b y) = d := ⟨_, rfl⟩
       rw [hd9] at HDI hpf
       have z5 : decide (d ≤ hh) = false := decide_eq_false (by omega)
       clear hgx hgy hpm hpa hx hy hd9 hpf q1 q2
       have hbb := below_alloc (Below.refl wr.heap.size wr) (.cells #[.int .i64 (x : Int), .int .i64 (y : Int)] 25)
       have hbn := blk_new wr (.cells #[.int .i64 (x : Int), .int .i64 (y : Int)] 25)
       have HBN := Aside0.mk (And.intro hbb hbn)
       clear hbb hbn
       go_upto_region 10 with fail
       obtain ⟨wd, hwd⟩ : ∃ W : World, W = wr.alloc (.cells #[.int .i64 (x : Int), .int .i64 (y : Int)] 25) := ⟨_, rfl⟩
       rw [← hwd]
       have hbb := HBN.out.1
       have hbn := HBN.out.2
       rw [← hwd] at hbb hbn
       clear hwd HBN p0 p1
       obtain ⟨bq, hbq⟩ : ∃ bq, bq = wr.heap.size := ⟨_, rfl⟩
       rw [← hbq] at hbn ⊢
       have hb6 : Below wd.heap.size wd wd.drew := pw_below_drewN (Below.refl _ _) 1
       have HMB := Aside0.mk ((HMW.out.below hbb).below hb6)
       have HBB := Aside0.mk (below_then (below_then HB.out HB.out.size hbb) (Nat.le_trans HB.out.size hbb.size) hb6)
       have hBN := blk_below hbn hb6
       obtain ⟨ax, rfl, t0, t1, t2⟩ := at_T59 (Kd.C_below HR.out.1 HBB.out) (x : Int) (Int.natCast_nonneg x) (Int.ofNat_lt.2 n5)
       obtain ⟨ay, rfl, u0, u1, u2⟩ := at_T59 (Kd.C_below HR.out.2.1 HBB.out) (y : Int) (Int.natCast_nonneg y) (Int.ofNat_lt.2 n6)
       rw [Int.toNat_natCast] at t0 t1 t2 u0 u1 u2
       have KK := Aside0.mk (And.intro (show wd.drew.cell? ⟨bq, 0, none⟩ = some (.int .i64 (x : Int)) from (blk_cell hBN 0).trans rfl) (And.intro (show wd.drew.cell? ⟨bq, 1, none⟩ = some (.int .i64 (y : Int)) from (blk_cell hBN 1).trans rfl) (And.intro t0 (And.intro t1 (And.intro t2 (And.intro u0 (And.intro u1 u2)))))))
       generalize (rd_T59 a x).f0 = x0 at KK HDI
       generalize (rd_T59 a x).f1 = x1 at KK HDI
       generalize (rd_T59 a x).f2 = x2 at KK HDI
       generalize (rd_T59 b y).f0 = y0 at KK HDI
       generalize (rd_T59 b y).f1 = y1 at KK HDI
       generalize (rd_T59 b y).f2 = y2 at KK HDI
       have HBL := Aside0.mk (blk_lt hbn)
       clear t0 t1 t2 u0 u1 u2 hBN hb6 hbb hbn hbq
       refine start_ (n := 37) (S := fun w' => w'.cell? ⟨bq, 0, none⟩ = some (.int .i64 (x : Int)) ∧ w'.cell? ⟨bq, 1, none⟩ = some (.int .i64 (y : Int)) ∧ w'.cell? (ax.add (x * 3)) = some (.int .i64 x0) ∧ w'.cell? ⟨(ax.add (x * 3)).block, (ax.add (x * 3)).off + 1, none⟩ = some (.int .i64 x1) ∧ w'.cell? ⟨(ax.add (x * 3)).block, (ax.add (x * 3)).off + 2, none⟩ = some (.int .i64 x2) ∧ w'.cell? (ay.add (y * 3)) = some (.int .i64 y0) ∧ w'.cell? ⟨(ay.add (y * 3)).block, (ay.add (y * 3)).off + 1, none⟩ = some (.int .i64 y1) ∧ w'.cell? ⟨(ay.add (y * 3)).block, (ay.add (y * 3)).off + 2, none⟩ = some (.int .i64 y2)) (ds := []) #[false, false, false, false, false, false, false, false, false, false, false, false, false, false, false, false, false, false, false, false, false, false, false, false, false, false, false, false, false, false, false, false, false, false, false, false, false] (by kernel_rfl) rfl rfl KK.out (fun hHeld => ?_)
       refine with_tabW crs10_tab crs10_bits (fun HT_ HW_ => ?_)
       generalize wd.drew = wB at KK HMB HBB hHeld ⊢
       refine take_ (i := 0) (N := some 37) (v := ?_) (a' := ?_) #[true, false, false, false, false, false, false, false, false, false, false, false, false, false, false, false, false, false, false, false, false, false, false, false, false, false, false, false, false, false, false, false, false, false, false, false, false] rfl rfl (take_ofW HT_.out HW_.out (by kernel_rfl)) (fun _ _ _ h => h) (Or.inl ⟨by rfl, ?_⟩) hHeld ?_ ?_
       rotate_left
       · rintro w' ⟨s0, s1, s2, s3, s4, s5, s6, s7⟩
         go_simp
         with_reducible rfl
       rotate_left
       · simp only [Act.put, List.setIfInBounds_toArray, List.set_cons_zero, List.set_cons_succ, i64_w, i32_w]
         rfl
       refine take_ (i := 1) (N := some 38) (v := ?_) (a' := ?_) #[true, true, false, false, false, false, false, false, false, false, false, false, false, false, false, false, false, false, false, false, false, false, false, false, false, false, false, false, false, false, false, false, false, false, false, false, false] rfl rfl (take_ofW HT_.out HW_.out (by kernel_rfl)) (fun _ _ _ h => h) (Or.inl ⟨by rfl, ?_⟩) hHeld ?_ ?_
       rotate_left
       · rintro w' ⟨s0, s1, s2, s3, s4, s5, s6, s7⟩
         go_simp
         with_reducible rfl
       rotate_left
       · simp only [Act.put, List.setIfInBounds_toArray, List.set_cons_zero, List.set_cons_succ, i64_w, i32_w]
         rfl
       refine take_ (i := 2) (N := some 39) (v := ?_) (a' := ?_) #[true, true, true, false, false, false, false, false, false, false, false, false, false, false, false, false, false, false, false, false, false, false, false, false, false, false, false, false, false, false, false, false, false, false, false, false, false] rfl rfl (take_ofW HT_.out HW_.out (by kernel_rfl)) (fun _ _ _ h => h) (Or.inl ⟨by rfl, ?_⟩) hHeld ?_ ?_
       rotate_left
       · rintro w' ⟨s0, s1, s2, s3, s4, s5, s6, s7⟩
         go_simp
         with_reducible rfl
       rotate_left
       · simp only [Act.put, List.setIfInBounds_toArray, List.set_cons_zero, List.set_cons_succ, i64_w, i32_w]
         rfl
       refine take_ (i := 3) (N := some 40) (v := ?_) (a' := ?_) #[true, true, true, true, false, false, false, false, false, false, false, false, false, false, false, false, false, false, false, false, false, false, false, false, false, false, false, false, false, false, false, false, false, false, false, false, false] rfl rfl (take_ofW HT_.out HW_.out (by kernel_rfl)) (fun _ _ _ h => h) (Or.inl ⟨by rfl, ?_⟩) hHeld ?_ ?_
       rotate_left
       · rintro w' ⟨s0, s1, s2, s3, s4, s5, s6, s7⟩
         go_simp
         with_reducible rfl
       rotate_left
       · simp only [Act.put, List.setIfInBounds_toArray, List.set_cons_zero, List.set_cons_succ, i64_w, i32_w]
         rfl
       refine take_ (i := 4) (N := some 41) (v := ?_) (a' := ?_) #[true, true, true, true, true, false, false, false, false, false, false, false, false, false, false, false, false, false, false, false, false, false, false, false, false, false, false, false, false, false, false, false, false, false, false, false, false] rfl rfl (take_ofW HT_.out HW_.out (by kernel_rfl)) (fun _ _ _ h => h) (Or.inl ⟨by rfl, ?_⟩) hHeld ?_ ?_
       rotate_left
       · rintro w' ⟨s0, s1, s2, s3, s4, s5, s6, s7⟩
         go_simp
         with_reducible rfl
       rotate_left
       · simp only [Act.put, List.setIfInBounds_toArray, List.set_cons_zero, List.set_cons_succ, i64_w, i32_w]
         rfl
       refine take_ (i := 5) (N := some 42) (v := ?_) (a' := ?_) #[true, true, true, true, true, true, false, false, false, false, false, false, false, false, false, false, false, false, false, false, false, false, false, false, false, false, false, false, false, false, false, false, false, false, false, false, false] rfl rfl (take_ofW HT_.out HW_.out (by kernel_rfl)) (fun _ _ _ h => h) (Or.inl ⟨by rfl, ?_⟩) hHeld ?_ ?_
       rotate_left
       · rintro w' ⟨s0, s1, s2, s3, s4, s5, s6, s7⟩
         go_simp
         with_reducible rfl
       rotate_left
       · simp only [Act.put, List.setIfInBounds_toArray, List.set_cons_zero, List.set_cons_succ, i64_w, i32_w]
         rfl
       refine take_ (i := 6) (N := some 43) (v := ?_) (a' := ?_) #[true, true, true, true, true, true, true, false, false, false, false, false, false, false, false, false, false, false, false, false, false, false, false, false, false, false, false, false, false, false, false, false, false, false, false, false, false] rfl rfl (take_ofW HT_.out HW_.out (by kernel_rfl)) (fun _ _ _ h => h) (Or.inl ⟨by rfl, ?_⟩) hHeld ?_ ?_
       rotate_left
       · rintro w' ⟨s0, s1, s2, s3, s4, s5, s6, s7⟩
         go_simp
         with_reducible rfl
       rotate_left
       · simp only [Act.put, List.setIfInBounds_toArray, List.set_cons_zero, List.set_cons_succ, i64_w, i32_w]
         rfl
       refine take_ (i := 7) (N := some 44) (v := ?_) (a' := ?_) #[true, true, true, true, true, true, true, true, false, false, false, false, false, false, false, false, false, false, false, false, false, false, false, false, false, false, false, false, false, false, false, false, false, false, false, false, false] rfl rfl (take_ofW HT_.out HW_.out (by kernel_rfl)) (fun _ _ _ h => h) (Or.inl ⟨by rfl, ?_⟩) hHeld ?_ ?_
       rotate_left
       · rintro w' ⟨s0, s1, s2, s3, s4, s5, s6, s7⟩
         go_simp
         with_reducible rfl
       rotate_left
       · simp only [Act.put, List.setIfInBounds_toArray, List.set_cons_zero, List.set_cons_succ, i64_w, i32_w]
         rfl
       refine take_ (i := 8) (N := some 45) (v := ?_) (a' := ?_) #[true, true, true, true, true, true, true, true, true, false, false, false, false, false, false, false, false, false, false, false, false, false, false, false, false, false, false, false, false, false, false, false, false, false, false, false, false] rfl rfl (take_ofW HT_.out HW_.out (by kernel_rfl)) (fun _ _ _ h => h) (Or.inl ⟨by rfl, ?_⟩) hHeld ?_ ?_
       rotate_left
       · rintro w' ⟨s0, s1, s2, s3, s4, s5, s6, s7⟩
         go_simp
         with_reducible rfl
       rotate_left
       · simp only [Act.put, List.setIfInBounds_toArray, List.set_cons_zero, List.set_cons_succ, i64_w, i32_w]
         rfl
       refine take_ (i := 9) (N := some 46) (v := ?_) (a' := ?_) #[true, true, true, true, true, true, true, true, true, true, false, false, false, false, false, false, false, false, false, false, false, false, false, false, false, false, false, false, false, false, false, false, false, false, false, false, false] rfl rfl (take_ofW HT_.out HW_.out (by kernel_rfl)) (fun _ _ _ h => h) (Or.inl ⟨by rfl, ?_⟩) hHeld ?_ ?_
       rotate_left
       · rintro w' ⟨s0, s1, s2, s3, s4, s5, s6, s7⟩
         go_simp
         with_reducible rfl
       rotate_left
       · simp only [Act.put, List.setIfInBounds_toArray, List.set_cons_zero, List.set_cons_succ, i64_w, i32_w]
         rfl
       refine take_ (i := 10) (N := some 47) (v := ?_) (a' := ?_) #[true, true, true, true, true, true, true, true, true, true, true, false, false, false, false, false, false, false, false, false, false, false, false, false, false, false, false, false, false, false, false, false, false, false, false, false, false] rfl rfl (take_ofW HT_.out HW_.out (by kernel_rfl)) (fun _ _ _ h => h) (Or.inl ⟨by rfl, ?_⟩) hHeld ?_ ?_
       rotate_left
       · rintro w' ⟨s0, s1, s2, s3, s4, s5, s6, s7⟩
         go_simp
         with_reducible rfl
       rotate_left
       · simp only [Act.put, List.setIfInBounds_toArray, List.set_cons_zero, List.set_cons_succ, i64_w, i32_w]
         rfl
       refine take_ (i := 11) (N := some 48) (v := ?_) (a' := ?_) #[true, true, true, true, true, true, true, true, true, true, true, true, false, false, false, false, false, false, false, false, false, false, false, false, false, false, false, false, false, false, false, false, false, false, false, false, false] rfl rfl (take_ofW HT_.out HW_.out (by kernel_rfl)) (fun _ _ _ h => h) (Or.inl ⟨by rfl, ?_⟩) hHeld ?_ ?_
       rotate_left
       · rintro w' ⟨s0, s1, s2, s3, s4, s5, s6, s7⟩
         go_simp
         with_reducible rfl
       rotate_left
       · simp only [Act.put, List.setIfInBounds_toArray, List.set_cons_zero, List.set_cons_succ, i64_w, i32_w]
         rfl
       refine take_ (i := 12) (N := some 49) (v := ?_) (a' := ?_) #[true, true, true, true, true, true, true, true, true, true, true, true, true, false, false, false, false, false, false, false, false, false, false, false, false, false, false, false, false, false, false, false, false, false, false, false, false] rfl rfl (take_ofW HT_.out HW_.out (by kernel_rfl)) (fun _ _ _ h => h) (Or.inl ⟨by rfl, ?_⟩) hHeld ?_ ?_
       rotate_left
       · rintro w' ⟨s0, s1, s2, s3, s4, s5, s6, s7⟩
         go_simp
         with_reducible rfl
       rotate_left
       · simp only [Act.put, List.setIfInBounds_toArray, List.set_cons_zero, List.set_cons_succ, i64_w, i32_w]
         rfl
       refine take_ (i := 13) (N := some 50) (v := ?_) (a' := ?_) #[true, true, true, true, true, true, true, true, true, true, true, true, true, true, false, false, false, false, false, false, false, false, false, false, false, false, false, false, false, false, false, false, false, false, false, false, false] rfl rfl (take_ofW HT_.out HW_.out (by kernel_rfl)) (fun _ _ _ h => h) (Or.inl ⟨by rfl, ?_⟩) hHeld ?_ ?_
       rotate_left
       · rintro w' ⟨s0, s1, s2, s3, s4, s5, s6, s7⟩
         go_simp
         with_reducible rfl
       rotate_left
       · simp only [Act.put, List.setIfInBounds_toArray, List.set_cons_zero, List.set_cons_succ, i64_w, i32_w]
         rfl
       refine take_ (i := 14) (N := some 51) (v := ?_) (a' := ?_) #[true, true, true, true, true, true, true, true, true, true, true, true, true, true, true, false, false, false, false, false, false, false, false, false, false, false, false, false, false, false, false, false, false, false, false, false, false] rfl rfl (take_ofW HT_.out HW_.out (by kernel_rfl)) (fun _ _ _ h => h) (Or.inl ⟨by rfl, ?_⟩) hHeld ?_ ?_
       rotate_left
       · rintro w' ⟨s0, s1, s2, s3, s4, s5, s6, s7⟩
         go_simp
         with_reducible rfl
       rotate_left
       · simp only [Act.put, List.setIfInBounds_toArray, List.set_cons_zero, List.set_cons_succ, i64_w, i32_w]
         rfl
       refine take_ (i := 15) (N := some 52) (v := ?_) (a' := ?_) #[true, true, true, true, true, true, true, true, true, true, true, true, true, true, true, true, false, false, false, false, false, false, false, false, false, false, false, false, false, false, false, false, false, false, false, false, false] rfl rfl (take_ofW HT_.out HW_.out (by kernel_rfl)) (fun _ _ _ h => h) (Or.inl ⟨by rfl, ?_⟩) hHeld ?_ ?_
       rotate_left
       · rintro w' ⟨s0, s1, s2, s3, s4, s5, s6, s7⟩
         go_simp
         with_reducible rfl
       rotate_left
       · simp only [Act.put, List.setIfInBounds_toArray, List.set_cons_zero, List.set_cons_succ, i64_w, i32_w]
         rfl
       refine take_ (i := 16) (N := some 53) (v := ?_) (a' := ?_) #[true, true, true, true, true, true, true, true, true, true, true, true, true, true, true, true, true, false, false, false, false, false, false, false, false, false, false, false, false, false, false, false, false, false, false, false, false] rfl rfl (take_ofW HT_.out HW_.out (by kernel_rfl)) (fun _ _ _ h => h) (Or.inl ⟨by rfl, ?_⟩) hHeld ?_ ?_
       rotate_left
       · rintro w' ⟨s0, s1, s2, s3, s4, s5, s6, s7⟩
         go_simp
         with_reducible rfl
       rotate_left
       · simp only [Act.put, List.setIfInBounds_toArray, List.set_cons_zero, List.set_cons_succ, i64_w, i32_w]
         rfl
       refine take_ (i := 17) (N := some 54) (v := ?_) (a' := ?_) #[true, true, true, true, true, true, true, true, true, true, true, true, true, true, true, true, true, true, false, false, false, false, false, false, false, false, false, false, false, false, false, false, false, false, false, false, false] rfl rfl (take_ofW HT_.out HW_.out (by kernel_rfl)) (fun _ _ _ h => h) (Or.inl ⟨by rfl, ?_⟩) hHeld ?_ ?_
       rotate_left
       · rintro w' ⟨s0, s1, s2, s3, s4, s5, s6, s7⟩
         go_simp
         with_reducible rfl
       rotate_left
       · simp only [Act.put, List.setIfInBounds_toArray, List.set_cons_zero, List.set_cons_succ, i64_w, i32_w]
         rfl
       refine take_ (i := 18) (N := some 55) (v := ?_) (a' := ?_) #[true, true, true, true, true, true, true, true, true, true, true, true, true, true, true, true, true, true, true, false, false, false, false, false, false, false, false, false, false, false, false, false, false, false, false, false, false] rfl rfl (take_ofW HT_.out HW_.out (by kernel_rfl)) (fun _ _ _ h => h) (Or.inl ⟨by rfl, ?_⟩) hHeld ?_ ?_
       rotate_left
       · rintro w' ⟨s0, s1, s2, s3, s4, s5, s6, s7⟩
         go_simp
         with_reducible rfl
       rotate_left
       · simp only [Act.put, List.setIfInBounds_toArray, List.set_cons_zero, List.set_cons_succ, i64_w, i32_w]
         rfl
       refine take_ (i := 19) (N := some 56) (v := ?_) (a' := ?_) #[true, true, true, true, true, true, true, true, true, true, true, true, true, true, true, true, true, true, true, true, false, false, false, false, false, false, false, false, false, false, false, false, false, false, false, false, false] rfl rfl (take_ofW HT_.out HW_.out (by kernel_rfl)) (fun _ _ _ h => h) (Or.inl ⟨by rfl, ?_⟩) hHeld ?_ ?_
       rotate_left
       · rintro w' ⟨s0, s1, s2, s3, s4, s5, s6, s7⟩
         go_simp
         with_reducible rfl
       rotate_left
       · simp only [Act.put, List.setIfInBounds_toArray, List.set_cons_zero, List.set_cons_succ, i64_w, i32_w]
         rfl
       refine take_ (i := 20) (N := some 57) (v := ?_) (a' := ?_) #[true, true, true, true, true, true, true, true, true, true, true, true, true, true, true, true, true, true, true, true, true, false, false, false, false, false, false, false, false, false, false, false, false, false, false, false, false] rfl rfl (take_ofW HT_.out HW_.out (by kernel_rfl)) (fun _ _ _ h => h) (Or.inl ⟨by rfl, ?_⟩) hHeld ?_ ?_
       rotate_left
       · rintro w' ⟨s0, s1, s2, s3, s4, s5, s6, s7⟩
         go_simp
         with_reducible rfl
       rotate_left
       · simp only [Act.put, List.setIfInBounds_toArray, List.set_cons_zero, List.set_cons_succ, i64_w, i32_w]
         rfl
       refine take_ (i := 21) (N := some 58) (v := ?_) (a' := ?_) #[true, true, true, true, true, true, true, true, true, true, true, true, true, true, true, true, true, true, true, true, true, true, false, false, false, false, false, false, false, false, false, false, false, false, false, false, false] rfl rfl (take_ofW HT_.out HW_.out (by kernel_rfl)) (fun _ _ _ h => h) (Or.inl ⟨by rfl, ?_⟩) hHeld ?_ ?_
       rotate_left
       · rintro w' ⟨s0, s1, s2, s3, s4, s5, s6, s7⟩
         go_simp
         with_reducible rfl
       rotate_left
       · simp only [Act.put, List.setIfInBounds_toArray, List.set_cons_zero, List.set_cons_succ, i64_w, i32_w]
         rfl
       refine take_ (i := 22) (N := some 59) (v := ?_) (a' := ?_) #[true, true, true, true, true, true, true, true, true, true, true, true, true, true, true, true, true, true, true, true, true, true, true, false, false, false, false, false, false, false, false, false, false, false, false, false, false] rfl rfl (take_ofW HT_.out HW_.out (by kernel_rfl)) (fun _ _ _ h => h) (Or.inl ⟨by rfl, ?_⟩) hHeld ?_ ?_
       rotate_left
       · rintro w' ⟨s0, s1, s2, s3, s4, s5, s6, s7⟩
         go_simp
         with_reducible rfl
       rotate_left
       · simp only [Act.put, List.setIfInBounds_toArray, List.set_cons_zero, List.set_cons_succ, i64_w, i32_w]
         rfl
       refine take_ (i := 23) (N := some 60) (v := ?_) (a' := ?_) #[true, true, true, true, true, true, true, true, true, true, true, true, true, true, true, true, true, true, true, true, true, true, true, true, false, false, false, false, false, false, false, false, false, false, false, false, false] rfl rfl (take_ofW HT_.out HW_.out (by kernel_rfl)) (fun _ _ _ h => h) (Or.inl ⟨by rfl, ?_⟩) hHeld ?_ ?_
       rotate_left
       · rintro w' ⟨s0, s1, s2, s3, s4, s5, s6, s7⟩
         go_simp
         with_reducible rfl
       rotate_left
       · simp only [Act.put, List.setIfInBounds_toArray, List.set_cons_zero, List.set_cons_succ, i64_w, i32_w]
         rfl
       refine take_ (i := 24) (N := some 61) (v := ?_) (a' := ?_) #[true, true, true, true, true, true, true, true, true, true, true, true, true, true, true, true, true, true, true, true, true, true, true, true, true, false, false, false, false, false, false, false, false, false, false, false, false] rfl rfl (take_ofW HT_.out HW_.out (by kernel_rfl)) (fun _ _ _ h => h) (Or.inl ⟨by rfl, ?_⟩) hHeld ?_ ?_
       rotate_left
       · rintro w' ⟨s0, s1, s2, s3, s4, s5, s6, s7⟩
         go_simp
         with_reducible rfl
       rotate_left
       · simp only [Act.put, List.setIfInBounds_toArray, List.set_cons_zero, List.set_cons_succ, i64_w, i32_w]
         rfl
       refine take_ (i := 25) (N := some 62) (v := ?_) (a' := ?_) #[true, true, true, true, true, true, true, true, true, true, true, true, true, true, true, true, true, true, true, true, true, true, true, true, true, true, false, false, false, false, false, false, false, false, false, false, false] rfl rfl (take_ofW HT_.out HW_.out (by kernel_rfl)) (fun _ _ _ h => h) (Or.inl ⟨by rfl, ?_⟩) hHeld ?_ ?_
       rotate_left
       · rintro w' ⟨s0, s1, s2, s3, s4, s5, s6, s7⟩
         go_simp
         with_reducible rfl
       rotate_left
       · simp only [Act.put, List.setIfInBounds_toArray, List.set_cons_zero, List.set_cons_succ, i64_w, i32_w]
         rfl
       refine take_ (i := 26) (N := some 63) (v := ?_) (a' := ?_) #[true, true, true, true, true, true, true, true, true, true, true, true, true, true, true, true, true, true, true, true, true, true, true, true, true, true, true, false, false, false, false, false, false, false, false, false, false] rfl rfl (take_ofW HT_.out HW_.out (by kernel_rfl)) (fun _ _ _ h => h) (Or.inl ⟨by rfl, ?_⟩) hHeld ?_ ?_
       rotate_left
       · rintro w' ⟨s0, s1, s2, s3, s4, s5, s6, s7⟩
         go_simp
         with_reducible rfl
       rotate_left
       · simp only [Act.put, List.setIfInBounds_toArray, List.set_cons_zero, List.set_cons_succ, i64_w, i32_w]
         rfl
       refine take_ (i := 27) (N := some 64) (v := ?_) (a' := ?_) #[true, true, true, true, true, true, true, true, true, true, true, true, true, true, true, true, true, true, true, true, true, true, true, true, true, true, true, true, false, false, false, false, false, false, false, false, false] rfl rfl (take_ofW HT_.out HW_.out (by kernel_rfl)) (fun _ _ _ h => h) (Or.inl ⟨by rfl, ?_⟩) hHeld ?_ ?_
       rotate_left
       · rintro w' ⟨s0, s1, s2, s3, s4, s5, s6, s7⟩
         go_simp
         with_reducible rfl
       rotate_left
       · simp only [Act.put, List.setIfInBounds_toArray, List.set_cons_zero, List.set_cons_succ, i64_w, i32_w]
         rfl
       refine take_ (i := 28) (N := some 65) (v := ?_) (a' := ?_) #[true, true, true, true, true, true, true, true, true, true, true, true, true, true, true, true, true, true, true, true, true, true, true, true, true, true, true, true, true, false, false, false, false, false, false, false, false] rfl rfl (take_ofW HT_.out HW_.out (by kernel_rfl)) (fun _ _ _ h => h) (Or.inl ⟨by rfl, ?_⟩) hHeld ?_ ?_
       rotate_left
       · rintro w' ⟨s0, s1, s2, s3, s4, s5, s6, s7⟩
         go_simp
         with_reducible rfl
       rotate_left
       · simp only [Act.put, List.setIfInBounds_toArray, List.set_cons_zero, List.set_cons_succ, i64_w, i32_w]
         rfl
       refine take_ (i := 29) (N := some 66) (v := ?_) (a' := ?_) #[true, true, true, true, true, true, true, true, true, true, true, true, true, true, true, true, true, true, true, true, true, true, true, true, true, true, true, true, true, true, false, false, false, false, false, false, false] rfl rfl (take_ofW HT_.out HW_.out (by kernel_rfl)) (fun _ _ _ h => h) (Or.inl ⟨by rfl, ?_⟩) hHeld ?_ ?_
       rotate_left
       · rintro w' ⟨s0, s1, s2, s3, s4, s5, s6, s7⟩
         go_simp
         with_reducible rfl
       rotate_left
       · simp only [Act.put, List.setIfInBounds_toArray, List.set_cons_zero, List.set_cons_succ, i64_w, i32_w]
         rfl
       refine take_ (i := 30) (N := some 67) (v := ?_) (a' := ?_) #[true, true, true, true, true, true, true, true, true, true, true, true, true, true, true, true, true, true, true, true, true, true, true, true, true, true, true, true, true, true, true, false, false, false, false, false, false] rfl rfl (take_ofW HT_.out HW_.out (by kernel_rfl)) (fun _ _ _ h => h) (Or.inl ⟨by rfl, ?_⟩) hHeld ?_ ?_
       rotate_left
       · rintro w' ⟨s0, s1, s2, s3, s4, s5, s6, s7⟩
         go_simp
         with_reducible rfl
       rotate_left
       · simp only [Act.put, List.setIfInBounds_toArray, List.set_cons_zero, List.set_cons_succ, i64_w, i32_w]
         rfl
       refine take_ (i := 31) (N := some 68) (v := ?_) (a' := ?_) #[true, true, true, true, true, true, true, true, true, true, true, true, true, true, true, true, true, true, true, true, true, true, true, true, true, true, true, true, true, true, true, true, false, false, false, false, false] rfl rfl (take_ofW HT_.out HW_.out (by kernel_rfl)) (fun _ _ _ h => h) (Or.inl ⟨by rfl, ?_⟩) hHeld ?_ ?_
       rotate_left
       · rintro w' ⟨s0, s1, s2, s3, s4, s5, s6, s7⟩
         go_simp
         with_reducible rfl
       rotate_left
       · simp only [Act.put, List.setIfInBounds_toArray, List.set_cons_zero, List.set_cons_succ, i64_w, i32_w]
         rfl
       refine take_ (i := 32) (N := some 69) (v := ?_) (a' := ?_) #[true, true, true, true, true, true, true, true, true, true, true, true, true, true, true, true, true, true, true, true, true, true, true, true, true, true, true, true, true, true, true, true, true, false, false, false, false] rfl rfl (take_ofW HT_.out HW_.out (by kernel_rfl)) (fun _ _ _ h => h) (Or.inl ⟨by rfl, ?_⟩) hHeld ?_ ?_
       rotate_left
       · rintro w' ⟨s0, s1, s2, s3, s4, s5, s6, s7⟩
         go_simp
         with_reducible rfl
       rotate_left
       · simp only [Act.put, List.setIfInBounds_toArray, List.set_cons_zero, List.set_cons_succ, i64_w, i32_w]
         rfl
       refine take_ (i := 34) (N := some 71) (v := ?_) (a' := ?_) #[true, true, true, true, true, true, true, true, true, true, true, true, true, true, true, true, true, true, true, true, true, true, true, true, true, true, true, true, true, true, true, true, true, false, true, false, false] rfl rfl (take_ofW HT_.out HW_.out (by kernel_rfl)) (fun _ _ _ h => h) (Or.inl ⟨by rfl, ?_⟩) hHeld ?_ ?_
       rotate_left
       · rintro w' ⟨s0, s1, s2, s3, s4, s5, s6, s7⟩
         go_simp
         with_reducible rfl
       rotate_left
       · simp only [Act.put, List.setIfInBounds_toArray, List.set_cons_zero, List.set_cons_succ, i64_w, i32_w]
         rfl
       refine one_ (i := 33) (N := some 70) #[true, true, true, true, true, true, true, true, true, true, true, true, true, true, true, true, true, true, true, true, true, true, true, true, true, true, true, true, true, true, true, true, true, true, true, false, false] rfl rfl (one_of HT_.out (by kernel_rfl)) (by decide) (fun K hK => ?_)
       refine goes_ Try.func39 (by kernel_rfl) rfl #[.agg #[.int .i64 x0, .int .i64 x1, .int .i64 x2], .agg #[.int .i64 y0, .int .i64 y1, .int .i64 y2]] (by rfl) rfl rfl (by (try simp only [List.map_toArray, List.map_cons, List.map_nil]); first | done | rfl) ?_
       refine (pianolalaw07_far.calls x0 x1 x2 y0 y1 y2 d wB HDI.out).mono ?_
       rintro e wC ⟨rfl, hb5⟩
       refine ⟨_, rfl, ?_⟩
       have HMC := Aside0.mk (HMB.out.below hb5)
       have HBC := Aside0.mk (below_then HBB.out HBB.out.size hb5)
       replace KK := Aside0.mk (And.intro (pw_cell_below hb5 KK.out.1) (And.intro (pw_cell_below hb5 KK.out.2.1) (And.intro (pw_cell_below hb5 KK.out.2.2.1) (And.intro (pw_cell_below hb5 KK.out.2.2.2.1) (And.intro (pw_cell_below hb5 KK.out.2.2.2.2.1) (And.intro (pw_cell_below hb5 KK.out.2.2.2.2.2.1) (And.intro (pw_cell_below hb5 KK.out.2.2.2.2.2.2.1) (pw_cell_below hb5 KK.out.2.2.2.2.2.2.2))))))))
       clear hb5
       refine hK.out _ _ KK.out (fun hHeld => ?_)
       clear hK K
       refine norm_ (a' := ?_) ?_ ?_
       rotate_left
       · show Act.put _ (some 70) _ = _
         simp only [Act.put, List.setIfInBounds_toArray, List.set_cons_zero, List.set_cons_succ, i64_w, i32_w]
         rfl
       refine take_ (i := 35) (N := some 72) (v := ?_) (a' := ?_) #[true, true, true, true, true, true, true, true, true, true, true, true, true, true, true, true, true, true, true, true, true, true, true, true, true, true, true, true, true, true, true, true, true, true, true, true, false] rfl rfl (take_ofW HT_.out HW_.out (by kernel_rfl)) (fun _ _ _ h => h) (Or.inl ⟨by rfl, ?_⟩) hHeld ?_ ?_
       rotate_left
       · rintro w' ⟨s0, s1, s2, s3, s4, s5, s6, s7⟩
         go_simp
         with_reducible rfl
       rotate_left
       · simp only [Act.put, List.setIfInBounds_toArray, List.set_cons_zero, List.set_cons_succ, i64_w, i32_w]
         rfl
       refine take_ (i := 36) (N := some 73) (v := ?_) (a' := ?_) #[true, true, true, true, true, true, true, true, true, true, true, true, true, true, true, true, true, true, true, true, true, true, true, true, true, true, true, true, true, true, true, true, true, true, true, true, true] rfl rfl (take_ofW HT_.out HW_.out (by kernel_rfl)) (fun _ _ _ h => h) (Or.inl ⟨by rfl, ?_⟩) hHeld ?_ ?_
       rotate_left
       · rintro w' ⟨s0, s1, s2, s3, s4, s5, s6, s7⟩
         go_simp
         with_reducible rfl
       rotate_left
       · simp only [Act.put, List.setIfInBounds_toArray, List.set_cons_zero, List.set_cons_succ, i64_w, i32_w]
         rfl
       refine done_ (done_of HT_.out (by kernel_rfl)) ?_
       clear hHeld HT_ HW_ HMB HBB
       first | rw [z5] | skip
       go_upto_region 12 with fail
       have hb6 : Below wC.heap.size wC wC.drew := pw_below_drewN (Below.refl _ _) 1
       have HMD := Aside0.mk (HMC.out.below hb6)
       have HBD := Aside0.mk (below_then HBC.out HBC.out.size hb6)
       have K2 := Aside0.mk (And.intro (pw_cell_below hb6 KK.out.1) (And.intro (pw_cell_below hb6 KK.out.2.1) (And.intro (HMD.out.cell0 x n5 trivial) (HMD.out.cell1 x y n5 trivial n6))))
       obtain ⟨Bx, hBx⟩ : ∃ Bx, Bx = B x := ⟨_, rfl⟩
       rw [← hBx] at K2
       have HBI := Aside0.mk hBx
       clear hBx hb6 KK HMC HBC
       generalize V x y = v0 at K2
       refine start_ (n := 9) (S := fun w' => w'.cell? ⟨bq, 0, none⟩ = some (.int .i64 (x : Int)) ∧ w'.cell? ⟨bq, 1, none⟩ = some (.int .i64 (y : Int)) ∧ w'.cell? ⟨g, x, none⟩ = some (.slice (some ⟨Bx, 0, none⟩) m m) ∧ w'.cell? ⟨Bx, y, none⟩ = some v0) (ds := [8]) #[false, false, false, false, false, false, false, false, false] (by kernel_rfl) rfl rfl K2.out (fun hHeld => ?_)
       refine with_tabW crs12_tab crs12_bits (fun HT_ HW_ => ?_)
       generalize wC.drew = wD at K2 HMD HBD hHeld ⊢
       refine take_ (i := 0) (N := some 74) (v := ?_) (a' := ?_) #[true, false, false, false, false, false, false, false, false] rfl rfl (take_ofW HT_.out HW_.out (by kernel_rfl)) (fun _ _ _ h => h) (Or.inl ⟨by rfl, ?_⟩) hHeld ?_ ?_
       rotate_left
       · rintro w' ⟨s0, s1, s2, s3⟩
         go_simp
         with_reducible rfl
       rotate_left
       · simp only [Act.put, List.setIfInBounds_toArray, List.set_cons_zero, List.set_cons_succ, i64_w, i32_w]
         rfl
       refine take_ (i := 1) (N := some 75) (v := ?_) (a' := ?_) #[true, true, false, false, false, false, false, false, false] rfl rfl (take_ofW HT_.out HW_.out (by kernel_rfl)) (fun _ _ _ h => h) (Or.inl ⟨by rfl, ?_⟩) hHeld ?_ ?_
       rotate_left
       · rintro w' ⟨s0, s1, s2, s3⟩
         go_simp
         with_reducible rfl
       rotate_left
       · simp only [Act.put, List.setIfInBounds_toArray, List.set_cons_zero, List.set_cons_succ, i64_w, i32_w]
         rfl
       refine take_ (i := 2) (N := some 76) (v := ?_) (a' := ?_) #[true, true, true, false, false, false, false, false, false] rfl rfl (take_ofW HT_.out HW_.out (by kernel_rfl)) (fun _ _ _ h => h) (Or.inl ⟨by rfl, ?_⟩) hHeld ?_ ?_
       rotate_left
       · rintro w' ⟨s0, s1, s2, s3⟩
         go_simp
         with_reducible rfl
       rotate_left
       · simp only [Act.put, List.setIfInBounds_toArray, List.set_cons_zero, List.set_cons_succ, i64_w, i32_w]
         rfl
       refine take_ (i := 3) (N := some 77) (v := ?_) (a' := ?_) #[true, true, true, true, false, false, false, false, false] rfl rfl (take_ofW HT_.out HW_.out (by kernel_rfl)) (fun _ _ _ h => h) (Or.inl ⟨by rfl, ?_⟩) hHeld ?_ ?_
       rotate_left
       · rintro w' ⟨s0, s1, s2, s3⟩
         go_simp
         with_reducible rfl
       rotate_left
       · simp only [Act.put, List.setIfInBounds_toArray, List.set_cons_zero, List.set_cons_succ, i64_w, i32_w]
         rfl
       refine take_ (i := 4) (N := some 78) (v := ?_) (a' := ?_) #[true, true, true, true, true, false, false, false, false] rfl rfl (take_ofW HT_.out HW_.out (by kernel_rfl)) (fun _ _ _ h => h) (Or.inl ⟨by rfl, ?_⟩) hHeld ?_ ?_
       rotate_left
       · rintro w' ⟨s0, s1, s2, s3⟩
         go_simp
         with_reducible rfl
       rotate_left
       · simp only [Act.put, List.setIfInBounds_toArray, List.set_cons_zero, List.set_cons_succ, i64_w, i32_w]
         rfl
       refine take_ (i := 5) (N := some 79) (v := ?_) (a' := ?_) #[true, true, true, true, true, true, false, false, false] rfl rfl (take_ofW HT_.out HW_.out (by kernel_rfl)) (fun _ _ _ h => h) (Or.inl ⟨by rfl, ?_⟩) hHeld ?_ ?_
       rotate_left
       · rintro w' ⟨s0, s1, s2, s3⟩
         go_simp
         with_reducible rfl
       rotate_left
       · simp only [Act.put, List.setIfInBounds_toArray, List.set_cons_zero, List.set_cons_succ, i64_w, i32_w]
         rfl
       refine take_ (i := 6) (N := some 80) (v := ?_) (a' := ?_) #[true, true, true, true, true, true, true, false, false] rfl rfl (take_ofW HT_.out HW_.out (by kernel_rfl)) (fun _ _ _ h => h) (Or.inl ⟨by rfl, ?_⟩) hHeld ?_ ?_
       rotate_left
       · rintro w' ⟨s0, s1, s2, s3⟩
         go_simp
         with_reducible rfl
       rotate_left
       · simp only [Act.put, List.setIfInBounds_toArray, List.set_cons_zero, List.set_cons_succ, i64_w, i32_w]
         rfl
       refine take_ (i := 7) (N := some 81) (v := ?_) (a' := ?_) #[true, true, true, true, true, true, true, true, false] rfl rfl (take_ofW HT_.out HW_.out (by kernel_rfl)) (fun _ _ _ h => h) (Or.inl ⟨by rfl, ?_⟩) hHeld ?_ ?_
       rotate_left
       · rintro w' ⟨s0, s1, s2, s3⟩
         go_simp
         with_reducible rfl
       rotate_left
       · simp only [Act.put, List.setIfInBounds_toArray, List.set_cons_zero, List.set_cons_succ, i64_w, i32_w]
         rfl
       have hfz := HMD.out.fz1 x y n5 trivial
       rw [← HBI.out] at hfz
       have hcq := hHeld.2.2.2
       refine last_ (i := 8) (N := none) #[true, true, true, true, true, true, true, true, true] rfl rfl (one_of HT_.out (by kernel_rfl)) (by decide) (fun K hK => ?_)
       refine store_step (by rfl) rfl (w1 := wD.setCell ⟨Bx, y, none⟩ (.bool true)) ?hr ?_
       (case hr => first | (go_simp; done) | (go_simp; rfl))
       refine hK.out _ _ ?_
       clear hK K
       refine done_ (done_of HT_.out (by kernel_rfl)) ?_
       have HME := Aside0.mk (HMD.out.put x y (.bool true) n5 trivial n6)
       rw [← HBI.out] at HME
       have HBE := Aside0.mk (below_set (g := Bx) (j := y) (v := .bool true) HBD.out (by rw [HBI.out]; exact (HMD.out.rb x n5 trivial).1))
       clear hfz hcq hHeld HT_ HW_ K2 HMD HBD
       generalize wD.setCell ⟨Bx, y, none⟩ (.bool true) = wE at HME HBE ⊢
       go_wp2
       refine ⟨⟨j + 1, _, congrArg _ (upNat j (by have := HJL.out; have := HLL.out; omega)), ⟨HJL.out⟩, HME, ⟨fun r k h1 h2 => ?_⟩, HBE⟩, ?_⟩
       · rw [wall_snoc l j x y HJL.out HPY.out r k]
         by_cases e : r = x ∧ k = y
         · rw [if_pos e, if_pos e]
         · rw [if_neg e, if_neg e]; exact HVW.out r k h1 h2
       · rw [upNat j (by have := HJL.out; have := HLL.out; omega)]
         exact upMeas l.length j HJL.out
     · obtain rfl : j = l.length := by have := HJ2.out; omega
       have hd : decide ((l.length : Int) < (l.length : Int)) = false := decide_eq_false (by omega)
       clear hj
       rename World => wQ
       rw [List.take_length] at HVW
       go_wp2
       have HST3 := Aside0.mk (Mt.start wQ wQ.heap.size i m 108 4 (fun _ => 0) (fun _ _ => .bool false) (Nat.le_refl _))
       have HBS3 := Aside0.mk (below_alloc (Below.refl wQ.heap.size wQ) (.cells (madeCells #[.slice none 0 0] i) 108))
       have HMQ := Aside0.mk (HMW.out)
       have HBQ := Aside0.mk HB.out
       have HGL := Aside0.mk HMW.out.lt
       obtain ⟨g2, hg2⟩ : ∃ g2, g2 = wQ.heap.size := ⟨_, rfl⟩
       obtain ⟨w3, hw3⟩ : ∃ W : World, W = wQ.alloc (.cells (madeCells #[.slice none 0 0] i) 108) := ⟨_, rfl⟩
       replace HST3 := Aside0.mk (show Mt w3 wQ.heap.size g2 i m 108 4 (fun _ => False) (fun _ => 0) (fun _ _ => .bool false) by rw [hw3, hg2]; exact HST3.out)
       replace HBS3 := Aside0.mk (show Below wQ.heap.size wQ w3 by rw [hw3]; exact HBS3.out)
       rw [← hw3, ← hg2]
       clear hw3 hd HB HMW
       have HG2 := Aside0.mk hg2
       clear hg2
       go_loopw [88] (fun s88 wr => ∃ (r : Nat) (B2 : Nat → Nat) (V2 : Nat → Nat → Value), s88 = .int .i64 r ∧ Aside0 (r ≤ i) ∧ Aside0 (Mt wr wQ.heap.size g2 i m 108 4 (fun x => x < r) B2 V2) ∧ Aside0 (∀ x k : Nat, x < r → x < i → k < m → ∃ z : Bool, V2 x k = .bool z ∧ (z = true ↔ Met (wallB l) x k)) ∧ Aside0 (Below wQ.heap.size wQ wr)) (fun s88 _ => i - (intOf s88).toNat)
       case atStart => exact ⟨0, fun _ => 0, fun _ _ => .bool false, rfl, ⟨Nat.zero_le _⟩, ⟨HST3.out.congr (fun r hr => ⟨fun h => by omega, fun h => h.elim⟩) (fun r k _ h => h.elim)⟩, ⟨fun r k h1 h2 => by omega⟩, HBS3⟩
       case round =>
        clear HST3 HBS3
        obtain ⟨r, B2, V2, rfl, HJ3, HM3, HV3, HB3⟩ := hrel
        by_cases hr : r < i
        · have n1 : r < i := hr
          have hd : decide ((r : Int) < (i : Int)) = true := decide_eq_true (by omega)
          clear hr
          have hba := below_alloc (Below.refl wr.heap.size wr) (.cells (madeCells #[.bool false] m) 4)
          have hnew := blk_new wr (.cells (madeCells #[.bool false] m) 4)
          have HM1 := Aside0.mk (HM3.out.below hba)
          have HB1 := Aside0.mk (HB3.out.alloc HB3.out.size (.cells (madeCells #[.bool false] m) 4))
          have k0 := HM1.out.nil0 r n1 (by omega)
          have k1 := HM1.out.fz0 r
          have HNW := Aside0.mk hnew
          have HLG := Aside0.mk HM3.out.lt
          have HLB := Aside0.mk (show ∀ x, x < i → x < r → B2 x ≠ wr.heap.size from fun x hx hd e => by
           obtain ⟨T, _, h2, _⟩ := HM3.out.row x hx hd
           have := blk_lt h2
           omega)
          have HSZ := Aside0.mk HB3.out.size
          have c1 : wr.heap.size ≠ g2 := by have := HM3.out.lt; omega
          have hBB := HM1.out.new r wr.heap.size (.bool false) n1 (by omega) HSZ.out c1 (fun x hx hd => HLB.out x hx hd) HNW.out
          have HMX := Aside0.mk hBB
          have k2 := HMX.out.cell0 r n1 (.inl rfl)
          simp only [if_true] at k2
          clear hba hnew HM3 HB3 c1 hBB
          go_wp2
          have HM2 := Aside0.mk HMX.out
          have HB2 := Aside0.mk (below_set (j := r) (v := .slice (some ⟨wr.heap.size, 0, none⟩) m m) HB1.out HM1.out.gb)
          clear k0 k1 k2 HM1 HB1 HNW HLG HLB HMX
          generalize ((wr.alloc (.cells (madeCells #[.bool false] m) 4)).setCell ⟨g2, r, none⟩ (.slice (some ⟨wr.heap.size, 0, none⟩) m m)) = w4 at HM2 HB2 ⊢
          obtain ⟨B3, hB3⟩ : ∃ B3 : Nat → Nat, B3 = fun r' => if r' = r then wr.heap.size else B2 r' := ⟨_, rfl⟩
          rw [← hB3] at HM2
          obtain ⟨V3, hV3⟩ : ∃ V3 : Nat → Nat → Value, V3 = fun r' k' => if r' = r then .bool false else V2 r' k' := ⟨_, rfl⟩
          replace HM2 := Aside0.mk (show Mt w4 wQ.heap.size g2 i m 108 4 (fun x => x < r + 1) B3 V3 by rw [hV3]; exact HM2.out.congr (fun r hr => ⟨fun h => by omega, fun h => by omega⟩) (fun _ _ _ _ _ => rfl))
          have HV4 := Aside0.mk (show ∀ x k : Nat, x < r → x < i → k < m → ∃ z : Bool, V3 x k = .bool z ∧ (z = true ↔ Met (wallB l) x k) from fun x k h1 h2 h3 => by rw [hV3]; simp only; rw [if_neg (by omega)]; exact HV3.out x k h1 h2 h3)
          clear HV3 hB3 hV3 hd HSZ
          go_loopw [102] (fun s102 wi => ∃ (k : Nat) (V : Nat → Nat → Value), s102 = .int .i64 k ∧ Aside0 (k ≤ m) ∧ Aside0 (Mt wi wQ.heap.size g2 i m 108 4 (fun x => x < r + 1) B3 V) ∧ Aside0 ((∀ x k : Nat, x < r → x < i → k < m → ∃ z : Bool, V x k = .bool z ∧ (z = true ↔ Met (wallB l) x k)) ∧ (∀ k' : Nat, k' < k → ∃ z : Bool, V r k' = .bool z ∧ (z = true ↔ Met (wallB l) r k'))) ∧ Aside0 (Below wQ.heap.size wQ wi)) (fun s102 _ => m - (intOf s102).toNat)
          case atStart => exact ⟨0, V3, rfl, ⟨Nat.zero_le _⟩, HM2, ⟨HV4.out, fun k h1 => by omega⟩, HB2⟩
          case round =>
           clear HM2 HB2 HV4
           clear V3 B2 V2 w4
           obtain ⟨k, V4, rfl, HK, HM4, HV4, HB4⟩ := hrel
           by_cases hk : k < m
           · have hd : decide ((k : Int) < (m : Int)) = true := decide_eq_true (by omega)
             have n2 : k < m := hk
             have HKI := Aside0.mk (show k ≤ 1000000 by have := HM0.out; omega)
             have HMW := Aside0.mk (HMQ.out.below HB4.out)
             have f0 := HM4.out.cell0 r n1 (Nat.lt_succ_self r)
             have f1 := HM4.out.cell1 r k n1 (Nat.lt_succ_self r) n2
             have f2 := HMW.out.cell0 r n1 trivial
             have f3 := HMW.out.cell1 r k n1 trivial n2
             rw [HVW.out r k n1 n2] at f3
             obtain ⟨b3, hb3⟩ : ∃ b3, b3 = B3 r := ⟨_, rfl⟩
             obtain ⟨b1, hb1⟩ : ∃ b1, b1 = B r := ⟨_, rfl⟩
             rw [← hb3] at f0 f1
             rw [← hb1] at f2 f3
             have HB3 := Aside0.mk hb3
             clear hb3 hb1 HMW
             generalize V4 r k = v0 at f1
             have hmi := met_iff (wallB l) r k
             generalize hwv : wallB l r k = wv at f3 hmi
             clear hwv hk
             cases wv with
             | true =>
              have HMI := Aside0.mk (show (false = true) ↔ Met (wallB l) r k from ⟨fun h => (by cases h), fun h => by have := (hmi.1 h).1; cases this⟩)
              clear hmi
              go_upto_region 22 with fail
              have HMD := Aside0.mk (HM4.out.below (below_drew (Below.refl wr.heap.size wr)))
              have HBD := Aside0.mk (below_drew1 HB4.out)
              have h0 : wr.drew.cell? ⟨g2, r, none⟩ = some (.slice (some ⟨b3, 0, none⟩) m m) := f0
              have h1 : wr.drew.cell? ⟨b3, k, none⟩ = some v0 := f1
              have h2 : wr.drew.cell? ⟨g, r, none⟩ = some (.slice (some ⟨b1, 0, none⟩) m m) := f2
              have h3 : wr.drew.cell? ⟨b1, k, none⟩ = some (.bool true) := f3
              have hcq : wr.drew.cell? ⟨b3, k, none⟩ = some v0 := h1
              have hfz : wr.drew.frozen? ⟨b3, k, none⟩ = false := by rw [HB3.out]; exact HMD.out.fz1 r k n1 (Nat.lt_succ_self r)
              simp only [List.append_eq, List.cons_append, List.nil_append]
              refine region_quiet_tail 69 (by kernel_rfl) (by kernel_rfl) ?_
              clear f0 f1 f2 f3
              generalize wr.drew = wD at HMD HBD hcq hfz h0 h1 h2 h3 ⊢
              simp only [List.take_succ_cons, List.take_zero, List.drop_succ_cons, List.drop_zero]
              iterate 69 go_big_quiet_step (fail)
              refine wpQuiet_nil ?_
              clear h0 h1 h2 h3
              go_wp2
              have HME := Aside0.mk (HMD.out.put r k (.bool false) n1 (Nat.lt_succ_self r) n2)
              rw [← HB3.out] at HME
              have HBE := Aside0.mk (below_set (g := b3) (j := k) (v := .bool false) HBD.out (by rw [HB3.out]; exact (HMD.out.rb r n1 (Nat.lt_succ_self r)).1))
              clear hfz hcq HMD HBD
              generalize wD.setCell ⟨b3, k, none⟩ (.bool false) = wE at HME HBE ⊢
              refine ⟨⟨k + 1, _, (by first | exact congrArg _ (upNat k HKI.out) | rfl), ⟨n2⟩, HME, ⟨fun x k' h1 h2 h3 => ?_, fun k' h1 => ?_⟩, HBE⟩, ?_⟩
              · rw [if_neg (fun e => by omega)]; exact HV4.out.1 x k' h1 h2 h3
              · by_cases e : k' = k
                · rw [if_pos ⟨rfl, e⟩, e]; exact ⟨false, rfl, HMI.out⟩
                · rw [if_neg (fun h => e h.2)]; exact HV4.out.2 k' (by omega)
              · first | (rw [upNat k HKI.out]; exact upMeas m k n2) | exact upMeas m k n2
             | false =>
              by_cases c1 : 0 < r <;> by_cases c2 : 0 < k
              · obtain ⟨r1, hr1⟩ : ∃ r1, r1 = r - 1 := ⟨_, rfl⟩
                have e3 : wrap64 ((r : Int) - 1) = (r1 : Int) := by rw [w64' _ (by omega) (by have := HN.out; omega)]; omega
                have n3 : r1 < i := by omega
                have d1 : decide ((r : Int) > 0) = true := decide_eq_true (by omega)
                have d1' : decide ((0 : Int) < (r : Int)) = true := decide_eq_true (by omega)
                have q1 : ¬ ((r : Int) = 0) := by omega
                have q2 : ((r : Int) == 0) = false := beq_false_of_ne q1
                obtain ⟨k1, hk1⟩ : ∃ k1, k1 = k - 1 := ⟨_, rfl⟩
                have e4 : wrap64 ((k : Int) - 1) = (k1 : Int) := by rw [w64' _ (by omega) (by have := HM0.out; omega)]; omega
                have n4 : k1 < m := by omega
                have d2 : decide ((k : Int) > 0) = true := decide_eq_true (by omega)
                have d2' : decide ((0 : Int) < (k : Int)) = true := decide_eq_true (by omega)
                have q4 : ¬ ((k : Int) = 0) := by omega
                have q5 : ((k : Int) == 0) = false := beq_false_of_ne q4
                have f4 := HM4.out.cell0 r1 n3 (by omega)
                have f5 := HM4.out.cell1 r1 k n3 (by omega) n2
                obtain ⟨m1, hm1, hm1'⟩ := HV4.out.1 r1 k (by omega) n3 n2
                rw [hm1] at f5
                obtain ⟨b4, hb4⟩ : ∃ b4, b4 = B3 r1 := ⟨_, rfl⟩
                rw [← hb4] at f4 f5
                have f6 := HM4.out.cell1 r k1 n1 (Nat.lt_succ_self r) n4
                obtain ⟨m2, hm2, hm2'⟩ := HV4.out.2 k1 (by omega)
                rw [hm2, ← HB3.out] at f6
                have f7 := HM4.out.cell1 r1 k1 n3 (by omega) n4
                obtain ⟨m3, hm3, hm3'⟩ := HV4.out.1 r1 k1 (by omega) n3 n4
                rw [hm3, ← hb4] at f7
                rw [← hr1] at hmi
                rw [← hk1] at hmi
                cases m1 with
                | true =>
                 have HMI := Aside0.mk (show (true = true) ↔ Met (wallB l) r k from by rw [hmi]; rw [← hm1']; simp; omega)
                 clear hm1 hb4 hr1 hm2 hk1 hm3 hmi hm1' hm2' hm3'
                 go_upto_region 22 with fail
                 have HMD := Aside0.mk (HM4.out.below (below_drew (Below.refl wr.heap.size wr)))
                 have HBD := Aside0.mk (below_drew1 HB4.out)
                 have h0 : wr.drew.cell? ⟨g2, r, none⟩ = some (.slice (some ⟨b3, 0, none⟩) m m) := f0
                 have h1 : wr.drew.cell? ⟨b3, k, none⟩ = some v0 := f1
                 have h2 : wr.drew.cell? ⟨g, r, none⟩ = some (.slice (some ⟨b1, 0, none⟩) m m) := f2
                 have h3 : wr.drew.cell? ⟨b1, k, none⟩ = some (.bool false) := f3
                 have h4 : wr.drew.cell? ⟨g2, r1, none⟩ = some (.slice (some ⟨b4, 0, none⟩) m m) := f4
                 have h5 : wr.drew.cell? ⟨b4, k, none⟩ = some (.bool true) := f5
                 have h6 : wr.drew.cell? ⟨b3, k1, none⟩ = some (.bool m2) := f6
                 have h7 : wr.drew.cell? ⟨b4, k1, none⟩ = some (.bool m3) := f7
                 have hcq : wr.drew.cell? ⟨b3, k, none⟩ = some v0 := h1
                 have hfz : wr.drew.frozen? ⟨b3, k, none⟩ = false := by rw [HB3.out]; exact HMD.out.fz1 r k n1 (Nat.lt_succ_self r)
                 simp only [List.append_eq, List.cons_append, List.nil_append]
                 refine region_quiet_tail 69 (by kernel_rfl) (by kernel_rfl) ?_
                 clear f0 f1 f2 f3 f4 f5 f6 f7
                 generalize wr.drew = wD at HMD HBD hcq hfz h0 h1 h2 h3 h4 h5 h6 h7 ⊢
                 simp only [List.take_succ_cons, List.take_zero, List.drop_succ_cons, List.drop_zero]
                 iterate 69 go_big_quiet_step (fail)
                 refine wpQuiet_nil ?_
                 clear h0 h1 h2 h3 h4 h5 h6 h7
                 go_wp2
                 have HME := Aside0.mk (HMD.out.put r k (.bool true) n1 (Nat.lt_succ_self r) n2)
                 rw [← HB3.out] at HME
                 have HBE := Aside0.mk (below_set (g := b3) (j := k) (v := .bool true) HBD.out (by rw [HB3.out]; exact (HMD.out.rb r n1 (Nat.lt_succ_self r)).1))
                 clear hfz hcq HMD HBD
                 generalize wD.setCell ⟨b3, k, none⟩ (.bool true) = wE at HME HBE ⊢
                 refine ⟨⟨k + 1, _, (by first | exact congrArg _ (upNat k HKI.out) | rfl), ⟨n2⟩, HME, ⟨fun x k' h1 h2 h3 => ?_, fun k' h1 => ?_⟩, HBE⟩, ?_⟩
                 · rw [if_neg (fun e => by omega)]; exact HV4.out.1 x k' h1 h2 h3
                 · by_cases e : k' = k
                   · rw [if_pos ⟨rfl, e⟩, e]; exact ⟨true, rfl, HMI.out⟩
                   · rw [if_neg (fun h => e h.2)]; exact HV4.out.2 k' (by omega)
                 · first | (rw [upNat k HKI.out]; exact upMeas m k n2) | exact upMeas m k n2
                | false =>
                 cases m2 with
                 | true =>
                  have HMI := Aside0.mk (show (true = true) ↔ Met (wallB l) r k from by rw [hmi]; rw [← hm1', ← hm2']; simp; omega)
                  clear hm1 hb4 hr1 hm2 hk1 hm3 hmi hm1' hm2' hm3'
                  go_upto_region 22 with fail
                  have HMD := Aside0.mk (HM4.out.below (below_drew (Below.refl wr.heap.size wr)))
                  have HBD := Aside0.mk (below_drew1 HB4.out)
                  have h0 : wr.drew.cell? ⟨g2, r, none⟩ = some (.slice (some ⟨b3, 0, none⟩) m m) := f0
                  have h1 : wr.drew.cell? ⟨b3, k, none⟩ = some v0 := f1
                  have h2 : wr.drew.cell? ⟨g, r, none⟩ = some (.slice (some ⟨b1, 0, none⟩) m m) := f2
                  have h3 : wr.drew.cell? ⟨b1, k, none⟩ = some (.bool false) := f3
                  have h4 : wr.drew.cell? ⟨g2, r1, none⟩ = some (.slice (some ⟨b4, 0, none⟩) m m) := f4
                  have h5 : wr.drew.cell? ⟨b4, k, none⟩ = some (.bool false) := f5
                  have h6 : wr.drew.cell? ⟨b3, k1, none⟩ = some (.bool true) := f6
                  have h7 : wr.drew.cell? ⟨b4, k1, none⟩ = some (.bool m3) := f7
                  have hcq : wr.drew.cell? ⟨b3, k, none⟩ = some v0 := h1
                  have hfz : wr.drew.frozen? ⟨b3, k, none⟩ = false := by rw [HB3.out]; exact HMD.out.fz1 r k n1 (Nat.lt_succ_self r)
                  simp only [List.append_eq, List.cons_append, List.nil_append]
                  refine region_quiet_tail 69 (by kernel_rfl) (by kernel_rfl) ?_
                  clear f0 f1 f2 f3 f4 f5 f6 f7
                  generalize wr.drew = wD at HMD HBD hcq hfz h0 h1 h2 h3 h4 h5 h6 h7 ⊢
                  simp only [List.take_succ_cons, List.take_zero, List.drop_succ_cons, List.drop_zero]
                  iterate 69 go_big_quiet_step (fail)
                  refine wpQuiet_nil ?_
                  clear h0 h1 h2 h3 h4 h5 h6 h7
                  go_wp2
                  have HME := Aside0.mk (HMD.out.put r k (.bool true) n1 (Nat.lt_succ_self r) n2)
                  rw [← HB3.out] at HME
                  have HBE := Aside0.mk (below_set (g := b3) (j := k) (v := .bool true) HBD.out (by rw [HB3.out]; exact (HMD.out.rb r n1 (Nat.lt_succ_self r)).1))
                  clear hfz hcq HMD HBD
                  generalize wD.setCell ⟨b3, k, none⟩ (.bool true) = wE at HME HBE ⊢
                  refine ⟨⟨k + 1, _, (by first | exact congrArg _ (upNat k HKI.out) | rfl), ⟨n2⟩, HME, ⟨fun x k' h1 h2 h3 => ?_, fun k' h1 => ?_⟩, HBE⟩, ?_⟩
                  · rw [if_neg (fun e => by omega)]; exact HV4.out.1 x k' h1 h2 h3
                  · by_cases e : k' = k
                    · rw [if_pos ⟨rfl, e⟩, e]; exact ⟨true, rfl, HMI.out⟩
                    · rw [if_neg (fun h => e h.2)]; exact HV4.out.2 k' (by omega)
                  · first | (rw [upNat k HKI.out]; exact upMeas m k n2) | exact upMeas m k n2
                 | false =>
                  have HMI := Aside0.mk (show (m3 = true) ↔ Met (wallB l) r k from by rw [hmi]; rw [← hm1', ← hm2', ← hm3']; exact ⟨fun h => ⟨rfl, .inr (.inr (.inr ⟨c1, c2, h⟩))⟩, fun h => (by rcases h.2 with e | e | e | e <;> first | exact e.2.2 | exact absurd e.2 (by simp) | exact absurd e.1 (by omega))⟩)
                  clear hm1 hb4 hr1 hm2 hk1 hm3 hmi hm1' hm2' hm3'
                  go_upto_region 22 with fail
                  have HMD := Aside0.mk (HM4.out.below (below_drew (Below.refl wr.heap.size wr)))
                  have HBD := Aside0.mk (below_drew1 HB4.out)
                  have h0 : wr.drew.cell? ⟨g2, r, none⟩ = some (.slice (some ⟨b3, 0, none⟩) m m) := f0
                  have h1 : wr.drew.cell? ⟨b3, k, none⟩ = some v0 := f1
                  have h2 : wr.drew.cell? ⟨g, r, none⟩ = some (.slice (some ⟨b1, 0, none⟩) m m) := f2
                  have h3 : wr.drew.cell? ⟨b1, k, none⟩ = some (.bool false) := f3
                  have h4 : wr.drew.cell? ⟨g2, r1, none⟩ = some (.slice (some ⟨b4, 0, none⟩) m m) := f4
                  have h5 : wr.drew.cell? ⟨b4, k, none⟩ = some (.bool false) := f5
                  have h6 : wr.drew.cell? ⟨b3, k1, none⟩ = some (.bool false) := f6
                  have h7 : wr.drew.cell? ⟨b4, k1, none⟩ = some (.bool m3) := f7
                  have hcq : wr.drew.cell? ⟨b3, k, none⟩ = some v0 := h1
                  have hfz : wr.drew.frozen? ⟨b3, k, none⟩ = false := by rw [HB3.out]; exact HMD.out.fz1 r k n1 (Nat.lt_succ_self r)
                  simp only [List.append_eq, List.cons_append, List.nil_append]
                  refine region_quiet_tail 69 (by kernel_rfl) (by kernel_rfl) ?_
                  clear f0 f1 f2 f3 f4 f5 f6 f7
                  generalize wr.drew = wD at HMD HBD hcq hfz h0 h1 h2 h3 h4 h5 h6 h7 ⊢
                  simp only [List.take_succ_cons, List.take_zero, List.drop_succ_cons, List.drop_zero]
                  iterate 69 go_big_quiet_step (fail)
                  refine wpQuiet_nil ?_
                  clear h0 h1 h2 h3 h4 h5 h6 h7
                  go_wp2
                  have HME := Aside0.mk (HMD.out.put r k (.bool m3) n1 (Nat.lt_succ_self r) n2)
                  rw [← HB3.out] at HME
                  have HBE := Aside0.mk (below_set (g := b3) (j := k) (v := .bool m3) HBD.out (by rw [HB3.out]; exact (HMD.out.rb r n1 (Nat.lt_succ_self r)).1))
                  clear hfz hcq HMD HBD
                  generalize wD.setCell ⟨b3, k, none⟩ (.bool m3) = wE at HME HBE ⊢
                  refine ⟨⟨k + 1, _, (by first | exact congrArg _ (upNat k HKI.out) | rfl), ⟨n2⟩, HME, ⟨fun x k' h1 h2 h3 => ?_, fun k' h1 => ?_⟩, HBE⟩, ?_⟩
                  · rw [if_neg (fun e => by omega)]; exact HV4.out.1 x k' h1 h2 h3
                  · by_cases e : k' = k
                    · rw [if_pos ⟨rfl, e⟩, e]; exact ⟨m3, rfl, HMI.out⟩
                    · rw [if_neg (fun h => e h.2)]; exact HV4.out.2 k' (by omega)
                  · first | (rw [upNat k HKI.out]; exact upMeas m k n2) | exact upMeas m k n2
              · obtain ⟨r1, hr1⟩ : ∃ r1, r1 = r - 1 := ⟨_, rfl⟩
                have e3 : wrap64 ((r : Int) - 1) = (r1 : Int) := by rw [w64' _ (by omega) (by have := HN.out; omega)]; omega
                have n3 : r1 < i := by omega
                have d1 : decide ((r : Int) > 0) = true := decide_eq_true (by omega)
                have d1' : decide ((0 : Int) < (r : Int)) = true := decide_eq_true (by omega)
                have q1 : ¬ ((r : Int) = 0) := by omega
                have q2 : ((r : Int) == 0) = false := beq_false_of_ne q1
                have d2 : decide ((k : Int) > 0) = false := decide_eq_false (by omega)
                have d2' : decide ((0 : Int) < (k : Int)) = false := decide_eq_false (by omega)
                have q5 : ((k : Int) == 0) = true := beq_iff_eq.2 (by omega)
                have q6 : decide ((k : Int) = 0) = true := decide_eq_true (by omega)
                have f4 := HM4.out.cell0 r1 n3 (by omega)
                have f5 := HM4.out.cell1 r1 k n3 (by omega) n2
                obtain ⟨m1, hm1, hm1'⟩ := HV4.out.1 r1 k (by omega) n3 n2
                rw [hm1] at f5
                obtain ⟨b4, hb4⟩ : ∃ b4, b4 = B3 r1 := ⟨_, rfl⟩
                rw [← hb4] at f4 f5
                rw [← hr1] at hmi
                cases m1 with
                | true =>
                 have HMI := Aside0.mk (show (true = true) ↔ Met (wallB l) r k from by rw [hmi]; rw [← hm1']; simp; omega)
                 clear hm1 hb4 hr1 hmi hm1'
                 go_upto_region 22 with fail
                 have HMD := Aside0.mk (HM4.out.below (below_drew (Below.refl wr.heap.size wr)))
                 have HBD := Aside0.mk (below_drew1 HB4.out)
                 have h0 : wr.drew.cell? ⟨g2, r, none⟩ = some (.slice (some ⟨b3, 0, none⟩) m m) := f0
                 have h1 : wr.drew.cell? ⟨b3, k, none⟩ = some v0 := f1
                 have h2 : wr.drew.cell? ⟨g, r, none⟩ = some (.slice (some ⟨b1, 0, none⟩) m m) := f2
                 have h3 : wr.drew.cell? ⟨b1, k, none⟩ = some (.bool false) := f3
                 have h4 : wr.drew.cell? ⟨g2, r1, none⟩ = some (.slice (some ⟨b4, 0, none⟩) m m) := f4
                 have h5 : wr.drew.cell? ⟨b4, k, none⟩ = some (.bool true) := f5
                 have hcq : wr.drew.cell? ⟨b3, k, none⟩ = some v0 := h1
                 have hfz : wr.drew.frozen? ⟨b3, k, none⟩ = false := by rw [HB3.out]; exact HMD.out.fz1 r k n1 (Nat.lt_succ_self r)
                 simp only [List.append_eq, List.cons_append, List.nil_append]
                 refine region_quiet_tail 69 (by kernel_rfl) (by kernel_rfl) ?_
                 clear f0 f1 f2 f3 f4 f5
                 generalize wr.drew = wD at HMD HBD hcq hfz h0 h1 h2 h3 h4 h5 ⊢
                 simp only [List.take_succ_cons, List.take_zero, List.drop_succ_cons, List.drop_zero]
                 iterate 69 go_big_quiet_step (fail)
                 refine wpQuiet_nil ?_
                 clear h0 h1 h2 h3 h4 h5
                 go_wp2
                 have HME := Aside0.mk (HMD.out.put r k (.bool true) n1 (Nat.lt_succ_self r) n2)
                 rw [← HB3.out] at HME
                 have HBE := Aside0.mk (below_set (g := b3) (j := k) (v := .bool true) HBD.out (by rw [HB3.out]; exact (HMD.out.rb r n1 (Nat.lt_succ_self r)).1))
                 clear hfz hcq HMD HBD
                 generalize wD.setCell ⟨b3, k, none⟩ (.bool true) = wE at HME HBE ⊢
                 refine ⟨⟨k + 1, _, (by first | exact congrArg _ (upNat k HKI.out) | rfl), ⟨n2⟩, HME, ⟨fun x k' h1 h2 h3 => ?_, fun k' h1 => ?_⟩, HBE⟩, ?_⟩
                 · rw [if_neg (fun e => by omega)]; exact HV4.out.1 x k' h1 h2 h3
                 · by_cases e : k' = k
                   · rw [if_pos ⟨rfl, e⟩, e]; exact ⟨true, rfl, HMI.out⟩
                   · rw [if_neg (fun h => e h.2)]; exact HV4.out.2 k' (by omega)
                 · first | (rw [upNat k HKI.out]; exact upMeas m k n2) | exact upMeas m k n2
                | false =>
                 have HMI := Aside0.mk (show (false = true) ↔ Met (wallB l) r k from by rw [hmi]; rw [← hm1']; simp; omega)
                 clear hm1 hb4 hr1 hmi hm1'
                 go_upto_region 22 with fail
                 have HMD := Aside0.mk (HM4.out.below (below_drew (Below.refl wr.heap.size wr)))
                 have HBD := Aside0.mk (below_drew1 HB4.out)
                 have h0 : wr.drew.cell? ⟨g2, r, none⟩ = some (.slice (some ⟨b3, 0, none⟩) m m) := f0
                 have h1 : wr.drew.cell? ⟨b3, k, none⟩ = some v0 := f1
                 have h2 : wr.drew.cell? ⟨g, r, none⟩ = some (.slice (some ⟨b1, 0, none⟩) m m) := f2
                 have h3 : wr.drew.cell? ⟨b1, k, none⟩ = some (.bool false) := f3
                 have h4 : wr.drew.cell? ⟨g2, r1, none⟩ = some (.slice (some ⟨b4, 0, none⟩) m m) := f4
                 have h5 : wr.drew.cell? ⟨b4, k, none⟩ = some (.bool false) := f5
                 have hcq : wr.drew.cell? ⟨b3, k, none⟩ = some v0 := h1
                 have hfz : wr.drew.frozen? ⟨b3, k, none⟩ = false := by rw [HB3.out]; exact HMD.out.fz1 r k n1 (Nat.lt_succ_self r)
                 simp only [List.append_eq, List.cons_append, List.nil_append]
                 refine region_quiet_tail 69 (by kernel_rfl) (by kernel_rfl) ?_
                 clear f0 f1 f2 f3 f4 f5
                 generalize wr.drew = wD at HMD HBD hcq hfz h0 h1 h2 h3 h4 h5 ⊢
                 simp only [List.take_succ_cons, List.take_zero, List.drop_succ_cons, List.drop_zero]
                 iterate 69 go_big_quiet_step (fail)
                 refine wpQuiet_nil ?_
                 clear h0 h1 h2 h3 h4 h5
                 go_wp2
                 have HME := Aside0.mk (HMD.out.put r k (.bool false) n1 (Nat.lt_succ_self r) n2)
                 rw [← HB3.out] at HME
                 have HBE := Aside0.mk (below_set (g := b3) (j := k) (v := .bool false) HBD.out (by rw [HB3.out]; exact (HMD.out.rb r n1 (Nat.lt_succ_self r)).1))
                 clear hfz hcq HMD HBD
                 generalize wD.setCell ⟨b3, k, none⟩ (.bool false) = wE at HME HBE ⊢
                 refine ⟨⟨k + 1, _, (by first | exact congrArg _ (upNat k HKI.out) | rfl), ⟨n2⟩, HME, ⟨fun x k' h1 h2 h3 => ?_, fun k' h1 => ?_⟩, HBE⟩, ?_⟩
                 · rw [if_neg (fun e => by omega)]; exact HV4.out.1 x k' h1 h2 h3
                 · by_cases e : k' = k
                   · rw [if_pos ⟨rfl, e⟩, e]; exact ⟨false, rfl, HMI.out⟩
                   · rw [if_neg (fun h => e h.2)]; exact HV4.out.2 k' (by omega)
                 · first | (rw [upNat k HKI.out]; exact upMeas m k n2) | exact upMeas m k n2
              · have d1 : decide ((r : Int) > 0) = false := decide_eq_false (by omega)
                have d1' : decide ((0 : Int) < (r : Int)) = false := decide_eq_false (by omega)
                have q2 : ((r : Int) == 0) = true := beq_iff_eq.2 (by omega)
                have q3 : decide ((r : Int) = 0) = true := decide_eq_true (by omega)
                obtain ⟨k1, hk1⟩ : ∃ k1, k1 = k - 1 := ⟨_, rfl⟩
                have e4 : wrap64 ((k : Int) - 1) = (k1 : Int) := by rw [w64' _ (by omega) (by have := HM0.out; omega)]; omega
                have n4 : k1 < m := by omega
                have d2 : decide ((k : Int) > 0) = true := decide_eq_true (by omega)
                have d2' : decide ((0 : Int) < (k : Int)) = true := decide_eq_true (by omega)
                have q4 : ¬ ((k : Int) = 0) := by omega
                have q5 : ((k : Int) == 0) = false := beq_false_of_ne q4
                have f6 := HM4.out.cell1 r k1 n1 (Nat.lt_succ_self r) n4
                obtain ⟨m2, hm2, hm2'⟩ := HV4.out.2 k1 (by omega)
                rw [hm2, ← HB3.out] at f6
                rw [← hk1] at hmi
                cases m2 with
                | true =>
                 have HMI := Aside0.mk (show (true = true) ↔ Met (wallB l) r k from by rw [hmi]; rw [← hm2']; simp; omega)
                 clear hm2 hk1 hmi hm2'
                 go_upto_region 22 with fail
                 have HMD := Aside0.mk (HM4.out.below (below_drew (Below.refl wr.heap.size wr)))
                 have HBD := Aside0.mk (below_drew1 HB4.out)
                 have h0 : wr.drew.cell? ⟨g2, r, none⟩ = some (.slice (some ⟨b3, 0, none⟩) m m) := f0
                 have h1 : wr.drew.cell? ⟨b3, k, none⟩ = some v0 := f1
                 have h2 : wr.drew.cell? ⟨g, r, none⟩ = some (.slice (some ⟨b1, 0, none⟩) m m) := f2
                 have h3 : wr.drew.cell? ⟨b1, k, none⟩ = some (.bool false) := f3
                 have h6 : wr.drew.cell? ⟨b3, k1, none⟩ = some (.bool true) := f6
                 have hcq : wr.drew.cell? ⟨b3, k, none⟩ = some v0 := h1
                 have hfz : wr.drew.frozen? ⟨b3, k, none⟩ = false := by rw [HB3.out]; exact HMD.out.fz1 r k n1 (Nat.lt_succ_self r)
                 simp only [List.append_eq, List.cons_append, List.nil_append]
                 refine region_quiet_tail 69 (by kernel_rfl) (by kernel_rfl) ?_
                 clear f0 f1 f2 f3 f6
                 generalize wr.drew = wD at HMD HBD hcq hfz h0 h1 h2 h3 h6 ⊢
                 simp only [List.take_succ_cons, List.take_zero, List.drop_succ_cons, List.drop_zero]
                 iterate 69 go_big_quiet_step (fail)
                 refine wpQuiet_nil ?_
                 clear h0 h1 h2 h3 h6
                 go_wp2
                 have HME := Aside0.mk (HMD.out.put r k (.bool true) n1 (Nat.lt_succ_self r) n2)
                 rw [← HB3.out] at HME
                 have HBE := Aside0.mk (below_set (g := b3) (j := k) (v := .bool true) HBD.out (by rw [HB3.out]; exact (HMD.out.rb r n1 (Nat.lt_succ_self r)).1))
                 clear hfz hcq HMD HBD
                 generalize wD.setCell ⟨b3, k, none⟩ (.bool true) = wE at HME HBE ⊢
                 refine ⟨⟨k + 1, _, (by first | exact congrArg _ (upNat k HKI.out) | rfl), ⟨n2⟩, HME, ⟨fun x k' h1 h2 h3 => ?_, fun k' h1 => ?_⟩, HBE⟩, ?_⟩
                 · rw [if_neg (fun e => by omega)]; exact HV4.out.1 x k' h1 h2 h3
                 · by_cases e : k' = k
                   · rw [if_pos ⟨rfl, e⟩, e]; exact ⟨true, rfl, HMI.out⟩
                   · rw [if_neg (fun h => e h.2)]; exact HV4.out.2 k' (by omega)
                 · first | (rw [upNat k HKI.out]; exact upMeas m k n2) | exact upMeas m k n2
                | false =>
                 have HMI := Aside0.mk (show (false = true) ↔ Met (wallB l) r k from by rw [hmi]; rw [← hm2']; simp; omega)
                 clear hm2 hk1 hmi hm2'
                 go_upto_region 22 with fail
                 have HMD := Aside0.mk (HM4.out.below (below_drew (Below.refl wr.heap.size wr)))
                 have HBD := Aside0.mk (below_drew1 HB4.out)
                 have h0 : wr.drew.cell? ⟨g2, r, none⟩ = some (.slice (some ⟨b3, 0, none⟩) m m) := f0
                 have h1 : wr.drew.cell? ⟨b3, k, none⟩ = some v0 := f1
                 have h2 : wr.drew.cell? ⟨g, r, none⟩ = some (.slice (some ⟨b1, 0, none⟩) m m) := f2
                 have h3 : wr.drew.cell? ⟨b1, k, none⟩ = some (.bool false) := f3
                 have h6 : wr.drew.cell? ⟨b3, k1, none⟩ = some (.bool false) := f6
                 have hcq : wr.drew.cell? ⟨b3, k, none⟩ = some v0 := h1
                 have hfz : wr.drew.frozen? ⟨b3, k, none⟩ = false := by rw [HB3.out]; exact HMD.out.fz1 r k n1 (Nat.lt_succ_self r)
                 simp only [List.append_eq, List.cons_append, List.nil_append]
                 refine region_quiet_tail 69 (by kernel_rfl) (by kernel_rfl) ?_
                 clear f0 f1 f2 f3 f6
                 generalize wr.drew = wD at HMD HBD hcq hfz h0 h1 h2 h3 h6 ⊢
                 simp only [List.take_succ_cons, List.take_zero, List.drop_succ_cons, List.drop_zero]
                 iterate 69 go_big_quiet_step (fail)
                 refine wpQuiet_nil ?_
                 clear h0 h1 h2 h3 h6
                 go_wp2
                 have HME := Aside0.mk (HMD.out.put r k (.bool false) n1 (Nat.lt_succ_self r) n2)
                 rw [← HB3.out] at HME
                 have HBE := Aside0.mk (below_set (g := b3) (j := k) (v := .bool false) HBD.out (by rw [HB3.out]; exact (HMD.out.rb r n1 (Nat.lt_succ_self r)).1))
                 clear hfz hcq HMD HBD
                 generalize wD.setCell ⟨b3, k, none⟩ (.bool false) = wE at HME HBE ⊢
                 refine ⟨⟨k + 1, _, (by first | exact congrArg _ (upNat k HKI.out) | rfl), ⟨n2⟩, HME, ⟨fun x k' h1 h2 h3 => ?_, fun k' h1 => ?_⟩, HBE⟩, ?_⟩
                 · rw [if_neg (fun e => by omega)]; exact HV4.out.1 x k' h1 h2 h3
                 · by_cases e : k' = k
                   · rw [if_pos ⟨rfl, e⟩, e]; exact ⟨false, rfl, HMI.out⟩
                   · rw [if_neg (fun h => e h.2)]; exact HV4.out.2 k' (by omega)
                 · first | (rw [upNat k HKI.out]; exact upMeas m k n2) | exact upMeas m k n2
              · have d1 : decide ((r : Int) > 0) = false := decide_eq_false (by omega)
                have d1' : decide ((0 : Int) < (r : Int)) = false := decide_eq_false (by omega)
                have q2 : ((r : Int) == 0) = true := beq_iff_eq.2 (by omega)
                have q3 : decide ((r : Int) = 0) = true := decide_eq_true (by omega)
                have d2 : decide ((k : Int) > 0) = false := decide_eq_false (by omega)
                have d2' : decide ((0 : Int) < (k : Int)) = false := decide_eq_false (by omega)
                have q5 : ((k : Int) == 0) = true := beq_iff_eq.2 (by omega)
                have q6 : decide ((k : Int) = 0) = true := decide_eq_true (by omega)
                have HMI := Aside0.mk (show (true = true) ↔ Met (wallB l) r k from by rw [hmi]; simp; omega)
                clear hmi
                go_upto_region 22 with fail
                have HMD := Aside0.mk (HM4.out.below (below_drew (Below.refl wr.heap.size wr)))
                have HBD := Aside0.mk (below_drew1 HB4.out)
                have h0 : wr.drew.cell? ⟨g2, r, none⟩ = some (.slice (some ⟨b3, 0, none⟩) m m) := f0
                have h1 : wr.drew.cell? ⟨b3, k, none⟩ = some v0 := f1
                have h2 : wr.drew.cell? ⟨g, r, none⟩ = some (.slice (some ⟨b1, 0, none⟩) m m) := f2
                have h3 : wr.drew.cell? ⟨b1, k, none⟩ = some (.bool false) := f3
                have hcq : wr.drew.cell? ⟨b3, k, none⟩ = some v0 := h1
                have hfz : wr.drew.frozen? ⟨b3, k, none⟩ = false := by rw [HB3.out]; exact HMD.out.fz1 r k n1 (Nat.lt_succ_self r)
                simp only [List.append_eq, List.cons_append, List.nil_append]
                refine region_quiet_tail 69 (by kernel_rfl) (by kernel_rfl) ?_
                clear f0 f1 f2 f3
                generalize wr.drew = wD at HMD HBD hcq hfz h0 h1 h2 h3 ⊢
                simp only [List.take_succ_cons, List.take_zero, List.drop_succ_cons, List.drop_zero]
                iterate 69 go_big_quiet_step (fail)
                refine wpQuiet_nil ?_
                clear h0 h1 h2 h3
                go_wp2
                have HME := Aside0.mk (HMD.out.put r k (.bool true) n1 (Nat.lt_succ_self r) n2)
                rw [← HB3.out] at HME
                have HBE := Aside0.mk (below_set (g := b3) (j := k) (v := .bool true) HBD.out (by rw [HB3.out]; exact (HMD.out.rb r n1 (Nat.lt_succ_self r)).1))
                clear hfz hcq HMD HBD
                generalize wD.setCell ⟨b3, k, none⟩ (.bool true) = wE at HME HBE ⊢
                refine ⟨⟨k + 1, _, (by first | exact congrArg _ (upNat k HKI.out) | rfl), ⟨n2⟩, HME, ⟨fun x k' h1 h2 h3 => ?_, fun k' h1 => ?_⟩, HBE⟩, ?_⟩
                · rw [if_neg (fun e => by omega)]; exact HV4.out.1 x k' h1 h2 h3
                · by_cases e : k' = k
                  · rw [if_pos ⟨rfl, e⟩, e]; exact ⟨true, rfl, HMI.out⟩
                  · rw [if_neg (fun h => e h.2)]; exact HV4.out.2 k' (by omega)
                · first | (rw [upNat k HKI.out]; exact upMeas m k n2) | exact upMeas m k n2
           · obtain rfl : k = m := by have := HK.out; omega
             have hd : decide ((k : Int) < (k : Int)) = false := decide_eq_false (by omega)
             clear hk
             go_wp2
             refine ⟨⟨r + 1, B3, V4, congrArg _ (upNat r (by have := HN.out; omega)), ⟨n1⟩, HM4, ⟨fun x k' h1 h2 h3 => ?_⟩, HB4⟩, ?_⟩
             · by_cases e : x = r
               · subst e; exact HV4.out.2 k' h3
               · exact HV4.out.1 x k' (by omega) h2 h3
             · rw [upNat r (by have := HN.out; omega)]
               exact upMeas i r n1
        · obtain rfl : r = i := by have := HJ3.out; omega
          have hd : decide ((r : Int) < (r : Int)) = false := decide_eq_false (by omega)
          clear hr
          have n5 : N1 < r := by have := HNM.out; have := HN.out; omega
          have n6 : M1 < m := by have := HNM.out; have := HM0.out; omega
          have k1 := HM3.out.cell0 N1 n5 n5
          have k2 := HM3.out.cell1 N1 M1 n5 n5 n6
          obtain ⟨z, hz, hzm⟩ := HV3.out N1 M1 n5 n5 n6
          rw [hz] at k2
          have hzf : z = false := by
           cases z with
           | false => rfl
           | true => exact absurd (hzm.1 rfl) HNOT.out
          subst hzf
          clear hz hzm
          go_wp2
          go_ret
          exact ⟨rfl, below_then HBQ.out HBQ.out.size HB3.out⟩
end Go.Proofs.Ytkocigldchiifaa.H
