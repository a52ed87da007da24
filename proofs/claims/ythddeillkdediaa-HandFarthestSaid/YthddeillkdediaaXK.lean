/- Texts TA, U6 of this chapter, one behind the other. -/
import Derived.Carry
import Derived.ChangeSlices
import Derived.Laws.IdiomArrays
import Derived.Lib.SmallJoins
import Derived.LoopIn
import Derived.LoopNIn
import Derived.OpenShut
import Derived.OwnWalkIn
import Derived.TacticsInMore
import Derived.WideShapes
import Derived.Test.YthddeillkdediaaXG
import Derived.Test.YthddeillkdediaaXH
import Derived.Test.YthddeillkdediaaXI
import Derived.Test.YthddeillkdediaaXJ

/- Arguments of chapter 10's laws, opened. -/
namespace Go.Proofs.Ythddeillkdediaa.H
open Go.RowKit Go.Proofs.YthddeillkdediaaW.PrintWords Go.Proofs.YthddeillkdediaaW.PrintLast Go.Proofs.YthddeillkdediaaW.PrintMore
open Go.Shelf Go.Proofs.Ythddeillkdediaa.QA
open Go.ChangeShapes Go.WideShapes Go.Joins
set_option linter.unusedVariables false
set_option linter.unusedSimpArgs false


def isByte (a : Int) : Prop := 0 ≤ a ∧ a ≤ 255
theorem wf_byte {a : Int} (h : (Lit.int .u8 a).wf = true) : isByte a := by
 simp [Lit.wf, IntKind.min, IntKind.max, IntKind.signed, IntKind.bits] at h
 unfold isByte
 omega
set_option maxRecDepth 100000 in
theorem trod_nums {H : Type} {enc : TypeId × Value → H} {W : World} {base : Nat} {held : Bool} {fuel : Nat} {v : Value} {x : DataW H × List MemPlace} {t e : TypeId} {k : IntKind}
    (ut : Try.prog.underlying t = some (.slice e)) (ue : Try.prog.underlying e = some (.int k)) (ce : Try.prog.cellsOf e = 1) (hf : DataW.trod enc Try.prog W base (fun _ => true) held fuel t [v] = some x) :
    ∃ (A : Option Addr) (c : Nat) (l : List Int), v = .slice A l.length c ∧ l.length ≤ c ∧ Kd.C (Kd.int k) W A l.length l ∧ ∀ n ∈ l, (Lit.int k n).wf = true := by
  have key : ∃ (A : Option Addr) (len cap : Nat) (zs : List Int), v = .slice A len cap ∧ ((A = none ∧ len = 0 ∧ cap = 0 ∧ zs = []) ∨ ∃ x, A = some x ∧ len ≤ cap ∧ cap ≤ maxLen ∧ zs.length = cap ∧ (∀ i, i < zs.length → W.cell? (x.add i) = some (.int k (zs.getD i 0))) ∧ ∀ n ∈ zs, (Lit.int k n).wf = true) := by
    rcases open_ints ut ue ce hf with ⟨hcs, _⟩ | ⟨x, l, c, zs, hcs, _, hl, hm, hz, _, hcell, hwz⟩
    · simp at hcs
      subst hcs
      exact ⟨none, 0, 0, [], rfl, .inl ⟨rfl, rfl, rfl, rfl⟩⟩
    · simp at hcs
      subst hcs
      exact ⟨_, _, _, zs, rfl, .inr ⟨_, rfl, hl, hm, by simpa using hz, hcell, hwz⟩⟩
  obtain ⟨A, len, cap, zs, rfl, w⟩ := key
  obtain ⟨l, rfl, hr, hm, hw, hc⟩ := ReadsInt.ofRowC w
  exact ⟨A, cap, l, rfl, hc, Kd.C_of_reads (d := (0 : Int)) (h1 := fun _ => rfl) hr, hw⟩
theorem und49 : Try.prog.underlying 49 = some (.slice 5) := by kernel_rfl
theorem und5 : Try.prog.underlying 5 = some (.int .u8) := by kernel_rfl
theorem array3_ {α : Type} {cs : Array α} (h : cs.size = 3) : ∃ c0 c1 c2, cs = #[c0, c1, c2] := by
 obtain ⟨l⟩ := cs
 match l, h with
 | [c0, c1, c2], _ => exact ⟨c0, c1, c2, rfl⟩
set_option maxRecDepth 100000 in
theorem open_touch {H : Type} {enc : TypeId × Value → H} {W : World} {r : Reach} {b0 : Nat} {v : Value} {d : DataW H} {p : List MemPlace}
  (hv : Value.okWide Try.prog W r b0 51 v) (h : DataW.Trod enc Try.prog W 0 (fun _ => true) true 51 v d p) :
  ∃ A c l B e m x, v = .agg #[.slice A l.length c, .slice B m.length e, .int .u8 x] ∧ (l.length ≤ c ∧ m.length ≤ e) ∧ Kd.C (Kd.int .u8) W A l.length l ∧ Kd.C (Kd.int .u8) W B m.length m ∧ (∀ n ∈ l, isByte n) ∧ (∀ n ∈ m, isByte n) ∧ isByte x := by
 have e51 : Try.prog.cellsOf 51 = 3 := by kernel_rfl
 have e49 : Try.prog.cellsOf 49 = 1 := by kernel_rfl
 have e5 : Try.prog.cellsOf 5 = 1 := by kernel_rfl
 obtain ⟨cs, rfl, hsz⟩ := okWide_struct Try.underlying51 hv
 obtain ⟨c0, c1, c2, rfl⟩ := array3_ (hsz.trans e51)
 obtain ⟨fuel, hf⟩ := h
 obtain ⟨xs, m, _, _, _, hl, hi⟩ := DataW.trod_struct Try.underlying51 hf
 match xs, hl with
 | [y0, y1, y2], _ =>
  have t0 := hi 0 _ rfl
  have t1 := hi 1 _ rfl
  have t2 := hi 2 _ rfl
  replace t0 : DataW.trod enc Try.prog W 0 (fun _ => true) true m 49 [c0] = some y0 := by simpa [Value.cells, e49, e5] using t0
  replace t1 : DataW.trod enc Try.prog W 0 (fun _ => true) true m 49 [c1] = some y1 := by simpa [Value.cells, e49, e5] using t1
  replace t2 : DataW.trod enc Try.prog W 0 (fun _ => true) true m 5 [c2] = some y2 := by simpa [Value.cells, e49, e5] using t2
  obtain ⟨A, c, l, rfl, h1, h2, h3⟩ := trod_nums und49 und5 e5 t0
  obtain ⟨B, e, n, rfl, k1, k2, k3⟩ := trod_nums und49 und5 e5 t1
  obtain ⟨x, r2, _, v2⟩ := DataW.trod_int und5 t2
  simp only [List.cons.injEq, and_true] at r2
  subst r2
  exact ⟨A, c, l, B, e, n, x, rfl, ⟨h1, k1⟩, h2, k2, fun n hn => wf_byte (h3 n hn), fun n hn => wf_byte (k3 n hn), wf_byte v2⟩
end Go.Proofs.Ythddeillkdediaa.H

/- pianolalaw10.HandFarthest. -/
namespace Go.Proofs.Ythddeillkdediaa.H
open Go.RowKit Go.Proofs.YthddeillkdediaaW.PrintWords Go.Proofs.YthddeillkdediaaW.PrintLast Go.Proofs.YthddeillkdediaaW.PrintMore
open Go.Shelf Go.Proofs.Ythddeillkdediaa.QA
set_option linter.unusedVariables false
set_option linter.unusedSimpArgs false


theorem beats_n (A : Option Addr) (c n : Nat) (a : List Int) (B : Option Addr) (d m : Nat) (b : List Int) (r1 r2 : Int) (w : World) (hn : n = a.length) (hm : m = b.length) (hr : Kd.C (Kd.int .i64) w A a.length a) (hc : a.length ≤ c) (hr2 : Kd.C (Kd.int .i64) w B b.length b) (hc2 : b.length ≤ d) (h : hand_Beats.f a b = some (r1, r2)) :
  Calls Try.prog 17 #[.slice A n c, .slice B m d] w fun e w' => e = .returned (.tuple #[.int .i64 r1, .int .i64 r2]) ∧ Below w.heap.size w w' := by
  subst hn hm
  exact hand_Beats.calls A c a B d b r1 r2 w hr hc hr2 hc2 h
theorem tails_n (A : Option Addr) (c n : Nat) (a : List Int) (B : Option Addr) (d m : Nat) (b : List Int) (r1 r2 r3 r4 : Int) (w : World) (hn : n = a.length) (hm : m = b.length) (hr : Kd.C (Kd.int .i64) w A a.length a) (hc : a.length ≤ c) (hr2 : Kd.C (Kd.int .i64) w B b.length b) (hc2 : b.length ≤ d) (h : hand_Tails.f a b = some (r1, r2, r3, r4)) :
  Calls Try.prog 22 #[.slice A n c, .slice B m d] w fun e w' => e = .returned (.tuple #[.int .i64 r1, .int .i64 r2, .int .i64 r3, .int .i64 r4]) ∧ Below w.heap.size w w' := by
  subst hn hm
  exact hand_Tails.calls A c a B d b r1 r2 r3 r4 w hr hc hr2 hc2 h
theorem chance_n (A : Option Addr) (c n : Nat) (a : List Int) (B : Option Addr) (d m : Nat) (b : List Int) (r1 r2 r3 : Int) (w : World) (hn : n = a.length) (hm : m = b.length) (hr : Kd.C (Kd.int .i64) w A a.length a) (hc : a.length ≤ c) (hr2 : Kd.C (Kd.int .i64) w B b.length b) (hc2 : b.length ≤ d) (h : hand_Chance.f a b = some (r1, r2, r3)) :
  Calls Try.prog 24 #[.slice A n c, .slice B m d] w fun e w' => e = .returned (.tuple #[.agg #[.int .i64 r1, .int .i64 r2], .int .i64 r3]) ∧ Below w.heap.size w w' := by
  subst hn hm
  exact hand_Chance.calls A c a B d b r1 r2 r3 w hr hc hr2 hc2 h
theorem chk_of {l : List Int} (h1 : 1 ≤ l.length) (h2 : l.length ≤ 16) (h : ∀ x ∈ l, -100000 ≤ x ∧ x ≤ 100000) : chk l = 0 := by
 unfold H.chk
 rw [if_neg (by omega), if_neg (by omega), if_neg]
 rw [List.any_eq_true]
 rintro ⟨x, hx, hg⟩
 have := h x hx
 unfold goodB isIn at hg
 simp at hg
 omega
theorem mem_rd {l : List Int} {x : Int} (h : x ∈ l) : ∃ j : Nat, j < l.length ∧ x = rd l (j : Int) := by
 obtain ⟨j, hj, rfl⟩ := List.getElem_of_mem h
 refine ⟨j, hj, ?_⟩
 unfold rd
 rw [Int.toNat_natCast, List.getD_eq_getElem?_getD, List.getElem?_eq_getElem hj]
 rfl
set_option maxRecDepth 100000 in
set_option maxHeartbeats 8000000 in
theorem handFarthest_calls (A0 : Option Addr) (c0 : Nat) (l0 : List Int) (A1 : Option Addr) (c1 : Nat) (l1 : List Int) (x y z : Int) (w : World) (hc : l0.length ≤ c0 ∧ l1.length ≤ c1) (hC0 : Kd.C (Kd.int .u8) w A0 l0.length l0) (hC1 : Kd.C (Kd.int .u8) w A1 l1.length l1) (hl : ∀ n ∈ l0, 0 ≤ n ∧ n ≤ 255) (hm : ∀ n ∈ l1, 0 ≤ n ∧ n ≤ 255) (hx : 0 ≤ x ∧ x ≤ 255) (hy : 0 ≤ y ∧ y ≤ 255) (hz : 0 ≤ z ∧ z ≤ 255) :
  Calls Try.prog 11 #[.agg #[.slice A0 l0.length c0, .slice A1 l1.length c1, .int .u8 x], .int .u8 y, .int .u8 z] w fun e w' => e = .returned (.bool true) ∧ Below w.heap.size w w' := by
 have hu51 := Try.underlying51
 have hu34 := Try.underlying34
 obtain ⟨a, b, hmd, sa, sb⟩ := made_f l0 l1 hl hm x hx 20 (by omega)
 have HB := Aside0.mk (below_alloc (Below.refl w.heap.size w) (.cells #[.slice A0 l0.length c0, .slice A1 l1.length c1, .int .u8 x] 51))
 have K1 := Aside0.mk (blk_new w (.cells #[.slice A0 l0.length c0, .slice A1 l1.length c1, .int .u8 x] 51))
 have H0 := Aside0.mk (Kd.C_below hC0 HB.out)
 have H1 := Aside0.mk (Kd.C_below hC1 HB.out)
 have HA := Aside0.mk hc
 have HM := Aside0.mk hmd
 have HS := Aside0.mk (And.intro sa sb)
 -- where, and by how much
 have hal := sa.1
 have hbl := sb.1
 obtain ⟨i, hi⟩ : ∃ i : Nat, i = y.toNat % a.length := ⟨_, rfl⟩
 obtain ⟨j, hj⟩ : ∃ j : Nat, j = z.toNat % b.length := ⟨_, rfl⟩
 obtain ⟨u, hu⟩ : ∃ u : Nat, u = z.toNat % 5 := ⟨_, rfl⟩
 obtain ⟨v, hv⟩ : ∃ v : Nat, v = y.toNat % 5 := ⟨_, rfl⟩
 have hyn : y = (y.toNat : Int) := by omega
 have hzn : z = (z.toNat : Int) := by omega
 have ni : i < a.length := by rw [hi]; exact Nat.mod_lt _ (by omega)
 have nj : j < b.length := by rw [hj]; exact Nat.mod_lt _ (by omega)
 have nu : u ≤ 4 := by omega
 have nv : v ≤ 4 := by omega
 have e1 : wrap64 y = y := w64' _ (by omega) (by omega)
 have e2 : wrap64 z = z := w64' _ (by omega) (by omega)
 have t1 : Int.tmod y (a.length : Int) = (i : Int) := by rw [hyn, tmod_nat, hi]
 have t2 : Int.tmod z (b.length : Int) = (j : Int) := by rw [hzn, tmod_nat, hj]
 have t3 : Int.tmod z 5 = (u : Int) := by rw [hzn, show (5 : Int) = ((5 : Nat) : Int) from rfl, tmod_nat, hu]
 have t4 : Int.tmod y 5 = (v : Int) := by rw [hyn, show (5 : Int) = ((5 : Nat) : Int) from rfl, tmod_nat, hv]
 have bi := sa.2.2 _ (rd_mem a ni)
 have bj := sb.2.2 _ (rd_mem b nj)
 obtain ⟨p, hp⟩ : ∃ p, p = rd a (i : Int) - (u : Int) := ⟨_, rfl⟩
 obtain ⟨q, hq⟩ : ∃ q, q = rd b (j : Int) + (v : Int) := ⟨_, rfl⟩
 have s1 : wrap64 (rd a (i : Int) - (u : Int)) = p := by rw [hp, w64' _ (by omega) (by omega)]
 have s2 : wrap64 (rd b (j : Int) + (v : Int)) = q := by rw [hq, w64' _ (by omega) (by omega)]
 obtain ⟨a2, ha2⟩ : ∃ a2, a2 = a.set i p := ⟨_, rfl⟩
 obtain ⟨b2, hb2⟩ : ∃ b2, b2 = b.set j q := ⟨_, rfl⟩
 have la2 : a.length = a2.length := by rw [ha2, List.length_set]
 have lb2 : b.length = b2.length := by rw [hb2, List.length_set]
 have ga : ∀ k : Nat, k < a2.length → rd a2 (k : Int) ≤ rd a (k : Int) ∧ -7 ≤ rd a2 (k : Int) := fun k hk => by
  have h0 := sa.2.2 _ (rd_mem a (show k < a.length by omega))
  rw [ha2, rd_setN a i p k (by omega)]
  by_cases e : i = k
  · rw [if_pos e, ← e, hp]; omega
  · rw [if_neg e]; omega
 have gb : ∀ k : Nat, k < b2.length → rd b (k : Int) ≤ rd b2 (k : Int) ∧ rd b2 (k : Int) ≤ 67 := fun k hk => by
  have h0 := sb.2.2 _ (rd_mem b (show k < b.length by omega))
  rw [hb2, rd_setN b j q k (by omega)]
  by_cases e : j = k
  · rw [if_pos e, ← e, hq]; omega
  · rw [if_neg e]; omega
 have sa2 : ∀ x ∈ a2, -7 ≤ x ∧ x ≤ 63 := fun x hx => by
  obtain ⟨k, hk, rfl⟩ := mem_rd hx
  have h0 := sa.2.2 _ (rd_mem a (show k < a.length by omega))
  have := ga k hk
  omega
 have sb2 : ∀ x ∈ b2, -3 ≤ x ∧ x ≤ 67 := fun x hx => by
  obtain ⟨k, hk, rfl⟩ := mem_rd hx
  have h0 := sb.2.2 _ (rd_mem b (show k < b.length by omega))
  have := gb k hk
  omega
 have hmono := beats_mono b b2 lb2 (fun k hk => (gb k (by omega)).1) a a2 la2 (fun k hk => (ga k (by omega)).1)
 have hbth : bothI a2 b2 = 0 := by
  unfold bothI
  rw [if_pos (chk_of (by omega) (by have := sa.2.1; omega) (fun x hx => by have := sa2 x hx; omega)), chk_of (by omega) (by have := sb.2.1; omega) (fun x hx => by have := sb2 x hx; omega)]
 obtain ⟨n, hn⟩ : ∃ n, n = beatsI a b := ⟨_, rfl⟩
 obtain ⟨m, hmm⟩ : ∃ m, m = beatsI a2 b2 := ⟨_, rfl⟩
 have HE := Aside0.mk (show hand_Beats.f a b = some (n, 0) ∧ hand_Beats.f a2 b2 = some (m, 0) ∧ n ≤ m by
  refine ⟨?_, ?_, by rw [hn, hmm]; exact hmono⟩
  · unfold hand_Beats.f; rw [if_pos (smp_both sa sb), hn]
  · unfold hand_Beats.f; rw [if_pos hbth, hmm])
 have HL := Aside0.mk (show a.length = a2.length ∧ b.length = b2.length ∧ (1 ≤ a.length ∧ a.length ≤ 5) ∧ (1 ≤ b.length ∧ b.length ≤ 5) from ⟨la2, lb2, ⟨sa.1, sa.2.1⟩, ⟨sb.1, sb.2.1⟩⟩)
 have HR := Aside0.mk (And.intro sa2 sb2)
 have HIJ := Aside0.mk (And.intro ni (And.intro nj (And.intro ha2 hb2)))
 have HT := Aside0.mk (And.intro e1 (And.intro e2 (And.intro t1 (And.intro t2 (And.intro t3 (And.intro t4 (And.intro s1 s2)))))))
 clear hC0 hC1 hc hmd hl hm hx hy hz sa sb hal hbl hi hj hu hv hyn hzn ni nj nu nv e1 e2 t1 t2 t3 t4 bi bj hp hq s1 s2 ha2 hb2 la2 lb2 ga gb sa2 sb2 hmono hbth hn hmm
 have k0 := (blk_cell K1.out 0).trans rfl
 have k1 := (blk_cell K1.out 1).trans rfl
 have k2 := (blk_cell K1.out 2).trans rfl
 go_enter Try.func11, Try.ntmps11
 go_wp2_with fail
 refine (pianolalaw10_Touch_made.calls 20 A0 c0 l0 A1 c1 l1 x a b _ H0.out HA.out.1 H1.out HA.out.2 HM.out).mono ?_
 rintro e w1 ⟨va, vb, rfl, hRa, hRb, hb⟩
 have HB1 := Aside0.mk (HB.out.trans (hb.mono HB.out.size))
 obtain ⟨Aa, ca, rfl, hca, hCa⟩ := Kd.R_reads hRa
 obtain ⟨Ab, cb, rfl, hcb, hCb⟩ := Kd.R_reads hRb
 obtain ⟨ada, rfl⟩ := C_some hCa (by have := HL.out; omega)
 obtain ⟨adb, rfl⟩ := C_some hCb (by have := HL.out; omega)
 have HCa := Aside0.mk (And.intro hca hCa)
 have HCb := Aside0.mk (And.intro hcb hCb)
 clear hb hRa hRb hca hCa hcb hCb k0 k1 k2 K1 H0 H1 HM HB
 go_wp2_with fail
 refine (hand_Beats.calls (some ada) ca a (some adb) cb b n 0 _ HCa.out.2 HCa.out.1 HCb.out.2 HCb.out.1 HE.out.1).mono ?_
 rintro e w2 ⟨rfl, hb⟩
 have HB2 := Aside0.mk (HB1.out.trans (hb.mono HB1.out.size))
 have HCa2 := Aside0.mk (Kd.C_below HCa.out.2 hb)
 have HCb2 := Aside0.mk (Kd.C_below HCb.out.2 hb)
 clear hb HB1 HCa HCb
 go_wp2_with (at_builtin; refine Aside0.out ?_)
 refine ⟨?_⟩
 refine wpList_append_OwnI 22 und22 rfl _ _ rfl w2.heap.size (.slice (some ⟨w2.heap.size, 0, none⟩) 0 0) [] a rfl (OwnI.empty (Nat.le_refl _)) ada a.length ca rfl rfl (fun j u hu => pw_cell_below (below_alloc (Below.refl _ _) _) (ints_cells HCa2.out j u hu)) (by have := HL.out; simp; omega) (by simp) ?_
 intro v1 w3 hO1 hb1 hg1 ho1
 rw [List.nil_append] at hO1
 obtain ⟨gc, capc, rfl, hgc, hRc, _⟩ := R2.of_own hO1 (fun e => by have := HL.out; rw [e] at this; simp at this) (by have := HL.out; omega)
 have hbb1 : Below w2.heap.size w2 w3 := (below_alloc (Below.refl _ _) _).trans hb1
 have HRc := Aside0.mk hRc
 have HGC := Aside0.mk (And.intro hgc hRc.lt)
 have HB3 := Aside0.mk hbb1
 clear hO1 hb1 hg1 ho1 hgc hRc hbb1
 go_wp2_with (at_builtin; refine Aside0.out ?_)
 refine ⟨?_⟩
 refine wpList_append_OwnI 22 und22 rfl _ _ rfl w3.heap.size (.slice (some ⟨w3.heap.size, 0, none⟩) 0 0) [] b rfl (OwnI.empty (Nat.le_refl _)) adb b.length cb rfl rfl (fun j u hu => pw_cell_below ((HB3.out).trans ((below_alloc (Below.refl w3.heap.size w3) _).mono HB3.out.size)) (ints_cells HCb2.out j u hu)) (by have := HL.out; simp; omega) (by simp) ?_
 intro v2 w4 hO2 hb2 hg2 ho2
 rw [List.nil_append] at hO2
 obtain ⟨gd, capd, rfl, hgd, hRd, _⟩ := R2.of_own hO2 (fun e => by have := HL.out; rw [e] at this; simp at this) (by have := HL.out; omega)
 have hbb2 : Below w3.heap.size w3 w4 := (below_alloc (Below.refl _ _) _).trans hb2
 have hRc4 := HRc.out.below hbb2
 have hne : gc ≠ gd := by have := HGC.out.2; omega
 have HNE := Aside0.mk hne
 have HB4 := Aside0.mk (HB3.out.trans (hbb2.mono HB3.out.size))
 -- the two stores
 have hRc5 := hRc4.put i HIJ.out.1 p
 have hRd5 := hRd.far gc i (.int .i64 p) (Ne.symm hne)
 have hRc6 := hRc5.far gd j (.int .i64 q) hne
 have hRd6 := hRd5.put j HIJ.out.2.1 q
 rw [← HIJ.out.2.2.1] at hRc6
 rw [← HIJ.out.2.2.2] at hRd6
 have HB6 := Aside0.mk (below_set (g := gd) (j := j) (v := .int .i64 q) (below_set (g := gc) (j := i) (v := .int .i64 p) HB4.out HGC.out.1) (Nat.le_trans HB3.out.size hgd))
 have HGD := Aside0.mk (show w2.heap.size ≤ gd from Nat.le_trans HB3.out.size hgd)
 have HRc6 := Aside0.mk hRc6
 have HRd6 := Aside0.mk hRd6
 have f0 := (hRc4.cell i HIJ.out.1).1
 have f1 := (hRc4.cell i HIJ.out.1).2
 have f2 := (hRd5.cell j HIJ.out.2.1).1
 have f3 := (hRd5.cell j HIJ.out.2.1).2
 have ni := HIJ.out.1
 have nj := HIJ.out.2.1
 have nz1 : ¬ a.length = 0 := by have := HL.out; omega
 have nz2 : ¬ b.length = 0 := by have := HL.out; omega
 have nz3 : ¬ (a.length : Int) = 0 := by omega
 have nz4 : ¬ (b.length : Int) = 0 := by omega
 have e1 := HT.out.1
 have e2 := HT.out.2.1
 have t1 := HT.out.2.2.1
 have t2 := HT.out.2.2.2.1
 have t3 := HT.out.2.2.2.2.1
 have t4 := HT.out.2.2.2.2.2.1
 have s1 := HT.out.2.2.2.2.2.2.1
 have s2 := HT.out.2.2.2.2.2.2.2
 clear hO2 hb2 hg2 ho2 hgd hRd hbb2 hRc4 hRc5 hRd5 hRc6 hRd6 HRc hne
 go_wp2_with fail
 clear f0 f1 f2 f3 ni nj nz1 nz2 nz3 nz4 e1 e2 t1 t2 t3 t4 s1 s2
 generalize (w4.setCell ⟨gc, i, none⟩ (.int .i64 p)).setCell ⟨gd, j, none⟩ (.int .i64 q) = w6 at HRc6 HRd6 HB6 ⊢
 refine (beats_n (some ⟨gc, 0, none⟩) capc a.length a2 (some ⟨gd, 0, none⟩) capd b.length b2 m 0 _ HL.out.1 HL.out.2.1 HRc6.out.C HRc6.out.le.1 HRd6.out.C HRd6.out.le.1 HE.out.2.1).mono ?_
 rintro e w7 ⟨rfl, hb⟩
 have HRc7 := Aside0.mk (HRc6.out.below hb)
 have HRd7 := Aside0.mk (HRd6.out.below hb)
 have HB7 := Aside0.mk (below_then HB6.out HB6.out.size hb)
 have z1 : decide (m < n) = false := decide_eq_false (by have := HE.out.2.2; omega)
 have z2 : ¬ m < n := by have := HE.out.2.2; omega
 clear hb HRc6 HRd6 HB6 HB4 HB3
 go_wp2
 clear z1 z2
 go_loopw [82] (fun s82 wr => ∃ (k : Nat) (L : List Int), s82 = .int .i64 k ∧ Aside0 (k ≤ b.length) ∧ Aside0 (L.length = b.length ∧ ∀ j : Nat, j < b.length → rd L (j : Int) = if j < k then rd b2 (j : Int) + 200 else rd b2 (j : Int)) ∧ Aside0 (R2 wr gc capc a2) ∧ Aside0 (R2 wr gd capd L) ∧ Aside0 (Below w2.heap.size w2 wr)) (fun s82 _ => b.length - (intOf s82).toNat)
 case atStart => exact ⟨0, b2, rfl, ⟨Nat.zero_le _⟩, ⟨HL.out.2.1.symm, fun j hj => by rw [if_neg (Nat.not_lt_zero _)]⟩, HRc7, HRd7, HB7⟩
 case round =>
  clear HRc7 HRd7 HB7
  obtain ⟨k, L, rfl, HK, HLL, HRc, HRd, HBr⟩ := hrel
  by_cases hj : k < b.length
  · have n1 : k < b.length := hj
    have hd : decide ((k : Int) < (b.length : Int)) = true := decide_eq_true (by omega)
    clear hj
    have hkl : k < L.length := by rw [HLL.out.1]; exact n1
    have f0 := (HRd.out.cell k hkl).1
    have f1 := (HRd.out.cell k hkl).2
    have hv := HLL.out.2 k n1
    rw [if_neg (Nat.lt_irrefl k)] at hv
    have hb := HR.out.2 _ (rd_mem b2 (show k < b2.length by rw [← HL.out.2.1]; exact n1))
    have hs : wrap64 (rd L (k : Int) + 200) = rd L (k : Int) + 200 := by rw [hv]; exact w64' _ (by omega) (by omega)
    have HV := Aside0.mk hv
    obtain ⟨t, ht⟩ : ∃ t, t = rd L (k : Int) := ⟨_, rfl⟩
    rw [← ht] at f0 hs
    have HTT := Aside0.mk ht
    have HKB := Aside0.mk (show k ≤ 1000 by have := HL.out; omega)
    clear hv hb hkl ht
    go_wp2
    have HRd2 := Aside0.mk (HRd.out.put k (by rw [HLL.out.1]; exact n1) (t + 200))
    have HRc2 := Aside0.mk (HRc.out.far gd k (.int .i64 (t + 200)) HNE.out)
    have HB2r := Aside0.mk (below_set (g := gd) (j := k) (v := .int .i64 (t + 200)) HBr.out HGD.out)
    clear f0 f1 hs
    generalize wr.setCell ⟨gd, k, none⟩ (.int .i64 (t + 200)) = wz at HRd2 HRc2 HB2r ⊢
    refine ⟨⟨k + 1, L.set k (t + 200), (by first | exact congrArg _ (wrap_up k (by have := HKB.out; omega)) | rfl), ⟨n1⟩, ⟨by rw [List.length_set]; exact HLL.out.1, fun j hj => ?_⟩, HRc2, HRd2, HB2r⟩, ?_⟩
    · rw [rd_setN L k (t + 200) j (by rw [HLL.out.1]; exact hj)]
      by_cases e : k = j
      · rw [if_pos e, ← e, if_pos (by omega), HTT.out, HV.out]
      · rw [if_neg e, HLL.out.2 j hj]
        by_cases e2 : j < k
        · rw [if_pos e2, if_pos (by omega)]
        · rw [if_neg e2, if_neg (by omega)]
    · first | (rw [wrap_up k (by have := HKB.out; omega)]; exact meas_up b.length k n1) | exact meas_up b.length k n1
  · obtain ⟨nb, hnb⟩ : ∃ nb, nb = b.length := ⟨_, rfl⟩
    have hkn : k = nb := by have := HK.out; omega
    subst hkn
    have hd : decide ((k : Int) < (k : Int)) = false := decide_eq_false (by omega)
    have hLv : ∀ y ∈ L, 100 ≤ y ∧ y ≤ 1000 := fun y hy => by
      obtain ⟨j, hj2, rfl⟩ := mem_rd hy
      have hjb : j < b.length := by rw [← HLL.out.1]; exact hj2
      rw [HLL.out.2 j hjb, if_pos (by omega)]
      have := HR.out.2 _ (rd_mem b2 (show j < b2.length by rw [← HL.out.2.1]; exact hjb))
      omega
    have hl1 : L.length = b.length := HLL.out.1
    have hal : 1 ≤ a2.length ∧ a2.length ≤ 5 := by have := HL.out; omega
    have hbl : 1 ≤ L.length ∧ L.length ≤ 5 := by have := HL.out; omega
    have hfar := farthest a2 L 100 (fun e => by rw [e] at hal; simp at hal) (fun e => by rw [e] at hbl; simp at hbl) (fun x hx => by have := HR.out.1 x hx; omega) (fun y hy => (hLv y hy).1)
    have hbth : bothI a2 L = 0 := by
      unfold bothI
      rw [if_pos (chk_of (by omega) (by omega) (fun x hx => by have := HR.out.1 x hx; omega)), chk_of (by omega) (by omega) (fun x hx => by have := hLv x hx; omega)]
    obtain ⟨LA, hLA⟩ : ∃ n, n = cntB a2 L (fun _ => true) := ⟨_, rfl⟩
    obtain ⟨O, hO⟩ : ∃ n, n = cntB a2 L (fun x => decide (farI (beatsI a2 L) ((a2.length : Int) * L.length) ≤ farI x ((a2.length : Int) * L.length))) := ⟨_, rfl⟩
    rw [← hLA, ← hO] at hfar
    have hLA0 : 0 < LA := by rw [hLA]; exact cntB_pos a2 L _ rfl
    have hLA1 : LA ≤ 1024 := by
      rw [hLA]
      exact Nat.le_trans (cntB_le a2 L _) (Nat.le_trans (Nat.pow_le_pow_right (by omega) (show a2.length + L.length ≤ 10 by omega)) (by decide))
    obtain ⟨p1, hp1⟩ : ∃ p, p = (lowI O LA).1 := ⟨_, rfl⟩
    obtain ⟨p2, hp2⟩ : ∃ p, p = (lowI O LA).2 := ⟨_, rfl⟩
    obtain ⟨r1, hr1⟩ : ∃ r, r = (p1 == (lowI 1 LA).1 && (p2 == (lowI 1 LA).2)) := ⟨_, rfl⟩
    have HX := Aside0.mk (show hand_Tails.f a2 L = some ((LA : Int), 1, (LA : Int), 0) ∧ hand_Chance.f a2 L = some (p1, p2, 0) ∧ pianolalaw10_lowest.f 200 p1 p2 1 (LA : Int) = some r1 ∧ (r1 = false → pianolalaw10_lowest.f 200 p1 p2 2 (LA : Int) = some true) by
      refine ⟨?_, ?_, ?_, ?_⟩
      · unfold hand_Tails.f; rw [if_pos hbth, hfar.1, hfar.2.1, ← hLA]; rfl
      · unfold hand_Chance.f chanceI; rw [if_pos hbth, ← hO, ← hLA, ← hp1, ← hp2]
      · have := lowest_f 1 LA 200 p1 p2 hLA0 (by omega) (by omega) (by omega)
        rw [← hr1] at this
        exact this
      · intro hr
        have hO2 : O = 2 := by
          rcases hfar.2.2 with e | e
          · rw [e] at hp1 hp2
            rw [hr, hp1, hp2] at hr1
            simp at hr1
          · exact e
        have := lowest_f 2 LA 200 p1 p2 hLA0 (by omega) (by omega) (by omega)
        rw [← hO2, ← hp1, ← hp2] at this
        rw [hO2] at this
        simpa using this)
    have HNB := Aside0.mk (show k = L.length ∧ k = b.length by omega)
    clear hj hLv hl1 hal hbl hfar hbth hLA hO hLA0 hLA1 hp1 hp2 hr1
    rw [← hnb]
    clear hnb
    go_wp2_with fail
    refine (tails_n (some ⟨gc, 0, none⟩) capc a.length a2 (some ⟨gd, 0, none⟩) capd k L LA 1 LA 0 _ HL.out.1 HNB.out.1 HRc.out.C HRc.out.le.1 HRd.out.C HRd.out.le.1 HX.out.1).mono ?_
    rintro e w8 ⟨rfl, hb⟩
    have HRc8 := Aside0.mk (HRc.out.below hb)
    have HRd8 := Aside0.mk (HRd.out.below hb)
    have HB8 := Aside0.mk (below_then HBr.out HBr.out.size hb)
    clear hb HRc HRd HBr
    go_wp2_with fail
    refine (chance_n (some ⟨gc, 0, none⟩) capc a.length a2 (some ⟨gd, 0, none⟩) capd k L p1 p2 0 _ HL.out.1 HNB.out.1 HRc8.out.C HRc8.out.le.1 HRd8.out.C HRd8.out.le.1 HX.out.2.1).mono ?_
    rintro e w9 ⟨rfl, hb⟩
    have HB9 := Aside0.mk (below_then HB8.out HB8.out.size hb)
    clear hb HRc8 HRd8 HB8
    have k0 := (blk_cell (blk_new w9 (.cells #[.int .i64 p1, .int .i64 p2] 34)) 0).trans rfl
    have k1 := (blk_cell (blk_new w9 (.cells #[.int .i64 p1, .int .i64 p2] 34)) 1).trans rfl
    go_wp2_with fail
    refine (pianolalaw10_lowest.calls 200 p1 p2 1 LA r1 _ HX.out.2.2.1).mono ?_
    rintro e w10 ⟨rfl, hb⟩
    have hbl := below_alloc (Below.refl w9.heap.size w9) (.cells #[.int .i64 p1, .int .i64 p2] 34)
    have HB10 := Aside0.mk (below_then HB9.out HB9.out.size (below_then hbl (by simp) hb))
    have KB := Aside0.mk (blk_below2 hb (blk_new w9 (.cells #[.int .i64 p1, .int .i64 p2] 34)))
    clear hb hbl k0 k1 HB9
    cases hr : r1 with
    | true =>
      go_wp2_with fail
      refine (works_calls _).mono ?_
      rintro e w11 ⟨rfl, hb⟩
      have HB11 := Aside0.mk (below_then HB10.out HB10.out.size hb)
      clear hb HB10
      go_wp2
      go_ret
      exact ⟨rfl, HB2.out.trans (HB11.out.mono HB2.out.size)⟩
    | false =>
      have k0 := (blk_cell KB.out 0).trans rfl
      have k1 := (blk_cell KB.out 1).trans rfl
      go_wp2_with fail
      refine (pianolalaw10_lowest.calls 200 p1 p2 2 LA true _ (HX.out.2.2.2 hr)).mono ?_
      rintro e w11 ⟨rfl, hb⟩
      have HB11 := Aside0.mk (below_then HB10.out HB10.out.size hb)
      clear hb HB10 k0 k1
      go_wp2_with fail
      refine (works_calls _).mono ?_
      rintro e w12 ⟨rfl, hb⟩
      have HB12 := Aside0.mk (below_then HB11.out HB11.out.size hb)
      clear hb HB11
      go_wp2
      go_ret
      exact ⟨rfl, HB2.out.trans (HB12.out.mono HB2.out.size)⟩

end Go.Proofs.Ythddeillkdediaa.H
