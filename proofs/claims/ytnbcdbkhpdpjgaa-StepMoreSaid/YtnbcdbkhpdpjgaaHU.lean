/- Master.made: the walk. -/
import Derived.Test.YtnbcdbkhpdpjgaaHT
namespace Go.Proofs.Ytnbcdbkhpdpjgaa.H
open Go.RowKit Go.Proofs.YtnbcdbkhpdpjgaaW.PrintWords Go.Proofs.YtnbcdbkhpdpjgaaW.PrintLast Go.Proofs.YtnbcdbkhpdpjgaaW.PrintMore
open Go.Proofs.Ytnbcdbkhpdpjgaa.QA
set_option linter.unusedVariables false
set_option linter.unusedSimpArgs false

theorem w64' (a : Int) (h0 : -9223372036854775808 ≤ a) (h1 : a < 9223372036854775808) : wrap64 a = a := by unfold wrap64; omega
theorem blk_two (w : World) (o1 o2 : Obj) : ((w.alloc o1).alloc o2).heap[w.heap.size + 1]? = some o2 := by
 have := blk_new (w.alloc o1) o2
 rwa [World.size_alloc] at this
theorem mdRun_drop (s off o0 o1 o2 : Int) (l : List S92) (i : Nat) (st : MdSt) (x : S92) (h : (l.take 15)[i]? = some x) :
  mdRun s off o0 o1 o2 ((l.take 15).drop i) i st = mdRun s off o0 o1 o2 ((l.take 15).drop (i + 1)) (i + 1) (mdStep s off o0 o1 o2 st i x) := by
 obtain ⟨hi, rfl⟩ := List.getElem?_eq_some_iff.1 h
 rw [List.drop_eq_getElem_cons hi]
 rfl
/-- Lengths and bounds of what has been made of i holes. -/
def mdGood (st : MdSt) (i : Nat) : Prop := st.cs.length = min i 3 ∧ st.os.length = min i 3 ∧ st.rs.length = min i 3 ∧ (∀ o ∈ st.os, 0 ≤ o ∧ o < 40) ∧ (∀ c ∈ st.cs, c.length ≤ i) ∧ (∀ c ∈ st.rs, c.length ≤ i)

theorem mdNew_good {st : MdSt} {i : Nat} {s : Int} (o0 o1 o2 : Int) (hs : 1 ≤ s ∧ s ≤ 40) (ho : (0 ≤ o0 ∧ o0 ≤ 255) ∧ (0 ≤ o1 ∧ o1 ≤ 255) ∧ 0 ≤ o2 ∧ o2 ≤ 255) (h : mdGood st i) :
  (mdNew s o0 o1 o2 st i).cs.length = min (i + 1) 3 ∧ (mdNew s o0 o1 o2 st i).os.length = min (i + 1) 3 ∧ (mdNew s o0 o1 o2 st i).rs.length = min (i + 1) 3 ∧ (∀ o ∈ (mdNew s o0 o1 o2 st i).os, 0 ≤ o ∧ o < 40) ∧ (∀ c ∈ (mdNew s o0 o1 o2 st i).cs, c.length ≤ i) ∧ (∀ c ∈ (mdNew s o0 o1 o2 st i).rs, c.length ≤ i) := by
 obtain ⟨h1, h2, h3, h4, h5, h6⟩ := h
 unfold mdNew
 split
 · rename_i hq
   have hb : 0 ≤ mdOf o0 o1 o2 (i % 3) % s ∧ mdOf o0 o1 o2 (i % 3) % s < 40 := ⟨Int.emod_nonneg _ (by omega), by have := Int.emod_lt_of_pos (mdOf o0 o1 o2 (i % 3)) (b := s) (by omega); omega⟩
   refine ⟨by simp only [List.length_append, List.length_cons, List.length_nil]; omega, by simp only [List.length_append, List.length_cons, List.length_nil]; omega, by simp only [List.length_append, List.length_cons, List.length_nil]; omega, fun o ho => ?_, fun c hc => ?_, fun c hc => ?_⟩
   · rcases List.mem_append.1 ho with h | h
     · exact h4 o h
     · rw [List.mem_singleton.1 h]; exact hb
   · rcases List.mem_append.1 hc with h | h
     · exact h5 c h
     · rw [List.mem_singleton.1 h]; simp
   · rcases List.mem_append.1 hc with h | h
     · exact h6 c h
     · rw [List.mem_singleton.1 h]; simp
 · rename_i hq
   exact ⟨by omega, by omega, by omega, h4, h5, h6⟩

def made_T12 : Bool × List (List Nat × List Nat) := (true, [([], []), ([0], [0]), ([], []), ([], []), ([], []), ([], []), ([5], [5]), ([], []), ([6, 7], [6, 7]), ([8], [8]), ([], []), ([10], [10]), ([9, 11], [9, 11]), ([], []), ([], []), ([13, 14], [13, 14]), ([15], [15]), ([], []), ([17], [17]), ([16, 18, 12], [16, 18]), ([1, 2, 0, 1, 2, 5, 6, 7, 8, 9, 10, 11, 12, 16, 19], [1, 2]), ([20, 12, 19, 0, 1, 2, 5, 6, 7, 8, 9, 10, 11, 12, 16, 19], [12, 20]), ([3, 4, 0, 1, 2, 3, 4, 5, 6, 7, 8, 9, 10, 11, 12, 13, 14, 15, 16, 17, 18, 19, 20, 21], [3, 4]), ([22, 19, 21, 0, 1, 2, 3, 4, 5, 6, 7, 8, 9, 10, 11, 12, 13, 14, 15, 16, 17, 18, 19, 20, 21], [19, 22])])
def made_B12 : List Nat := [0, 1, 0, 0, 0, 0, 32, 0, 224, 480, 0, 1024, 4064, 0, 0, 24576, 57344, 0, 131072, 524256, 1048551, 2097127, 4194303, 8388607]
theorem made_tab12 : rtab .any (opsOf Try.f35 12) = made_T12 := by kernel_rfl
theorem made_bits12 : waitsOk made_T12.2 made_B12 = true := by kernel_rfl
theorem made_p {s off : Int} {x : S92} {os : List Int} (hs : 1 ≤ s ∧ s ≤ 40) (ho : 0 ≤ off ∧ off ≤ 6) (hx : (0 ≤ x.f0 ∧ x.f0 ≤ 255) ∧ 0 ≤ x.f1 ∧ x.f1 ≤ 255) (hos : ∀ o ∈ os, 0 ≤ o ∧ o < 40) (c : Int) (h0 : 0 ≤ c) (h1 : c < os.length) :
  IntKind.i64.wrap (IntKind.i64.wrap (IntKind.i64.wrap (rd os c + IntKind.i64.wrap ((7 + x.f0 % 50) * s)) + (IntKind.i64.wrap x.f1).tmod (IntKind.i64.wrap (IntKind.i64.wrap (2 * off) + 1))) - off) = os.getD c.toNat 0 + (7 + x.f0 % 50) * s + x.f1 % (2 * off + 1) - off := by
 simp only [i64_w]
 unfold rd
 have hm : 0 ≤ os.getD c.toNat 0 ∧ os.getD c.toNat 0 < 40 := by
  rw [List.getD_eq_getElem?_getD, List.getElem?_eq_getElem (by omega)]
  exact hos _ (List.getElem_mem _)
 generalize os.getD c.toNat 0 = o at hm ⊢
 have hr : 7 ≤ 7 + x.f0 % 50 ∧ 7 + x.f0 % 50 ≤ 56 := by omega
 generalize 7 + x.f0 % 50 = r at hr ⊢
 have h2 : 0 ≤ r * s := Int.mul_nonneg (by omega) (by omega)
 have h3 : r * s ≤ 56 * 40 := Int.mul_le_mul (by omega) (by omega) (by omega) (by omega)
 generalize r * s = m at h2 h3 ⊢
 have h4 : 0 ≤ x.f1 % (2 * off + 1) := Int.emod_nonneg _ (by omega)
 have h5 : x.f1 % (2 * off + 1) < 2 * off + 1 := Int.emod_lt_of_pos _ (by omega)
 rw [w64' (2 * off) (by omega) (by omega), w64' (2 * off + 1) (by omega) (by omega), w64' x.f1 (by omega) (by omega), Int.tmod_eq_emod_of_nonneg (by omega), w64' m (by omega) (by omega)]
 generalize x.f1 % (2 * off + 1) = q at h4 h5 ⊢
 rw [w64' (o + m) (by omega) (by omega), w64' (o + m + q) (by omega) (by omega), w64' _ (by omega) (by omega)]
theorem mdPut_good {st : MdSt} {i : Nat} {s off : Int} {x : S92} (h : st.cs.length = min (i + 1) 3 ∧ st.os.length = min (i + 1) 3 ∧ st.rs.length = min (i + 1) 3 ∧ (∀ o ∈ st.os, 0 ≤ o ∧ o < 40) ∧ (∀ c ∈ st.cs, c.length ≤ i) ∧ (∀ c ∈ st.rs, c.length ≤ i)) : mdGood (mdPut s off st (i % 3) x) (i + 1) := by
 obtain ⟨h1, h2, h3, h4, h5, h6⟩ := h
 have g : ∀ (l : List (List Int)), (∀ c ∈ l, c.length ≤ i) → (l.getD (i % 3) []).length ≤ i := fun l hl => by
  rw [List.getD_eq_getElem?_getD]
  cases e : l[i % 3]? with
  | none => simp
  | some v => exact hl v (List.mem_of_getElem? e)
 refine ⟨by simp only [mdPut, List.length_set]; exact h1, h2, by simp only [mdPut, List.length_set]; exact h3, h4, fun c hc => ?_, fun c hc => ?_⟩
 · rcases List.mem_or_eq_of_mem_set hc with h | rfl
   · have := h5 c h; omega
   · have := g _ h5; simp only [List.length_append, List.length_cons, List.length_nil]; omega
 · rcases List.mem_or_eq_of_mem_set hc with h | rfl
   · have := h6 c h; omega
   · have := g _ h6; simp only [List.length_append, List.length_cons, List.length_nil]; omega
theorem made_len {cs rs : List (List Int)} {i : Nat} (h1 : ∀ c ∈ cs, c.length ≤ i) (h2 : ∀ c ∈ rs, c.length ≤ i) (c : Nat) : (cs.getD c []).length ≤ i ∧ (rs.getD c []).length ≤ i := by
 constructor
 · rw [List.getD_eq_getElem?_getD]
   cases e : cs[c]? with
   | none => simp
   | some v => exact h1 v (List.mem_of_getElem? e)
 · rw [List.getD_eq_getElem?_getD]
   cases e : rs[c]? with
   | none => simp
   | some v => exact h2 v (List.mem_of_getElem? e)

set_option maxHeartbeats 8000000 in
set_option maxRecDepth 100000 in
theorem pianolalaw01_Master_made.calls (a0_0 a0_1 a0_2 a0_3 a0_4 : Int) (A0_5 : Option Addr) (c0_5 : Nat) (l0_5 : List S92) (r1 : Int) (r2 : List (List Int)) (r3 : Int) (r4 : List Int) (r5 : List (List Int)) (w : World) (hr0_5 : Kd.C k92 w A0_5 l0_5.length l0_5) (hc0_5 : l0_5.length ≤ c0_5) (h : pianolalaw01_Master_made.f a0_0 a0_1 a0_2 a0_3 a0_4 l0_5 = some (r1, r2, r3, r4, r5)) :
    Calls Try.prog 35 #[.agg #[.int .u8 a0_0, .int .u8 a0_1, .int .u8 a0_2, .int .u8 a0_3, .int .u8 a0_4, .slice A0_5 l0_5.length c0_5]] w fun e w' => ∃ v1 v2 v3 : Value, e = .returned (.tuple #[.agg #[.int .i64 r1, v1], .int .i64 r3, v2, v3]) ∧ Kd.S dL 34 w' w.heap.size (fun k => some k ≠ v2.ownBlock ∧ some k ≠ v3.ownBlock) v1 r2 ∧ Kd.R dN 3 w' w.heap.size (fun k => some k ≠ v1.ownBlock ∧ some k ≠ v3.ownBlock) v2 r4 ∧ Kd.S dL 34 w' w.heap.size (fun k => some k ≠ v1.ownBlock ∧ some k ≠ v2.ownBlock) v3 r5 ∧ Below w.heap.size w w' := by
 have hu24 := Try.underlying24
 have hu59 := Try.underlying59
 unfold pianolalaw01_Master_made.f at h
 split at h
 · rename_i hok
   have hm := Kd.C_max hr0_5
   have HR := Aside0.mk hr0_5
   have HK := Aside0.mk hok
   have HF := Aside0.mk (Option.some.inj h)
   obtain ⟨⟨b0, b1, b2, b3, b4⟩, hx⟩ := hok
   unfold isByte at b0 b1 b2 b3 b4
   have e0 : wrap64 (1 + (wrap64 a0_0).tmod 40) = 1 + a0_0 % 40 := by
     rw [w64' a0_0 (by omega) (by omega), Int.tmod_eq_emod_of_nonneg (by omega), w64' _ (by omega) (by omega)]
   have e1 : (wrap64 a0_1).tmod 7 = a0_1 % 7 := by rw [w64' a0_1 (by omega) (by omega), Int.tmod_eq_emod_of_nonneg (by omega)]
   have hs0 : 1 ≤ 1 + a0_0 % 40 ∧ 1 + a0_0 % 40 ≤ 40 := by omega
   have hof : 0 ≤ a0_1 % 7 ∧ a0_1 % 7 ≤ 6 := by omega
   have HE0 := Aside0.mk e0
   have HE1 := Aside0.mk e1
   have HB0 := Aside0.mk hs0
   have HB1 := Aside0.mk hof
   have HB2 := Aside0.mk (And.intro b2 (And.intro b3 b4))
   clear h hr0_5 b0 b1 b2 b3 b4 hx e0 e1 hs0 hof
   go_enter Try.func35, Try.ntmps35
   go_wp2
   rw [HE0.out, HE1.out]
   generalize 1 + a0_0 % 40 = s at HF HB0 ⊢
   generalize a0_1 % 7 = off at HF HB1 ⊢
   clear HE0 HE1
   go_loopg [4, 5, 6] 16 (fun gg v4 v5 s6 wr => ∃ (i : Nat) (vx : Value) (st : MdSt) (P1 P2 P3 : Nat → Prop), s6 = .int .i64 i ∧ Aside0 (i ≤ 15 ∧ i ≤ l0_5.length ∧ 15 - i ≤ gg) ∧ Aside0 (mdGood st i) ∧ Aside0 (mdEnd s off (mdRun s off a0_2 a0_3 a0_4 ((l0_5.take 15).drop i) i st) = (r1, r2, r3, r4, r5)) ∧ Aside0 (MI w wr #[.int .u8 a0_0, .int .u8 a0_1, .int .u8 a0_2, .int .u8 a0_3, .int .u8 a0_4, .slice A0_5 l0_5.length c0_5] off P1 P2 P3 vx vx v4 v5 st))
   case atStart =>
     refine ⟨0, .slice none 0 0, ⟨[], [], []⟩, fun _ => False, fun _ => False, fun _ => False, rfl, ⟨by omega, by omega, by omega⟩, ⟨by simp [mdGood]⟩, HF, ⟨?_⟩⟩
     exact ⟨Kd.S_nil _ _ _ _ _, Kd.R_nil _ _ _ _ _, Kd.S_nil _ _ _ _ _, blk_alloc (blk_new w _) _, blk_two w _ _, below_alloc (below_alloc (Below.refl _ _) _) _, fun k hk => by simp at hk, fun k => ⟨fun h => h.elim, fun h => h.elim⟩⟩
   case round =>
     obtain ⟨i, vx, st, P1, P2, P3, rfl, HI, HG, HF, HM⟩ := hrel
     have hz := HM.out.hb.size
     by_cases hl : i < l0_5.length ∧ i < 15
     · have h1 : decide ((i : Int) < (l0_5.length : Int)) = true := decide_eq_true (by omega)
       have h2 : decide ((i : Int) < 15) = true := decide_eq_true (by omega)
       have k5 : wr.cell? ⟨w.heap.size, 5, none⟩ = some (.slice A0_5 l0_5.length c0_5) := (blk_cell HM.out.bm 5).trans rfl
       have kx : wr.cell? ⟨w.heap.size + 1, 1, none⟩ = some vx := (blk_cell HM.out.bx 1).trans rfl
       have h3 : ((i : Int)).tmod 3 = ((i % 3 : Nat) : Int) := by rw [Int.tmod_eq_emod_of_nonneg (by omega)]; rfl
       obtain ⟨Ax, cx, rfl⟩ := Kd.S_slice HM.out.hs
       obtain ⟨A5, c5, rfl⟩ := Kd.S_slice HM.out.hr
       go_upto_if 37 with fail
       go_cut [4, 5] (fun v4' v5' wc => ∃ (vx' : Value) (P1 P2 P3 : Nat → Prop), Aside0 (MI w wc #[.int .u8 a0_0, .int .u8 a0_1, .int .u8 a0_2, .int .u8 a0_3, .int .u8 a0_4, .slice A0_5 l0_5.length c0_5] off P1 P2 P3 vx' vx' v4' v5' (mdNew s a0_2 a0_3 a0_4 st i)))
       case first =>
         by_cases hq : i % 3 = st.cs.length
         · have hqb : (((i : Int) % 3) == (st.cs.length : Int)) = true := beq_iff_eq.mpr (by omega)
           have hnew : mdNew s a0_2 a0_3 a0_4 st i = ⟨st.cs ++ [[]], st.os ++ [mdOf a0_2 a0_3 a0_4 (i % 3) % s], st.rs ++ [[]]⟩ := if_pos hq
           rw [hqb]
           have HL := Aside0.mk (show st.cs.length ≤ 3 ∧ st.os.length ≤ 3 ∧ st.rs.length ≤ 3 by have := HG.out; unfold mdGood at this; omega)
           go_upto_region 9 with (first | ((with_reducible refine gate_builtin (b := .append) (xs := #[.tmp 39, .tmp 40]) rfl ?_); at_builtin; refine Kd.S_append dL (w0 := w) w.heap.size rfl (.tmp 39) (.tmp 40) 22 34 (.slice none 0 0) 24 rfl Try.underlying22 info34 rfl (by decide) (by omega) (.slice Ax st.cs.length cx) st.cs [] [.slice none 0 0] (fun k => P1 k ∨ wr.heap.size ≤ k) (fun _ => False) rfl rfl ?aP (fun _ hk => hk.elim) ?aF ?aO ?aB ?aS ?aL ?_; (case aP => exact ⟨_, rfl, Kd.R_nil _ _ _ _ _⟩); (case aF => exact fun k hk => .inr hk); (case aO => exact Kd.S_mono HM.out.hs (fun k hk => ⟨.inl hk, id⟩)); (case aB => exact HM.out.hb); (case aS => exact HM.out.hb.size); (case aL => have := HL.out; omega); intro v1 w1 hS hb hg hat; obtain ⟨A1_, c1_, hv1⟩ := Kd.S_slice hS; simp only [List.length_append, List.length_cons, List.length_nil, Nat.zero_add] at hv1; subst hv1; have HM1 := Aside0.mk (HM.out.app1 hS hb hg); clear hS hb hg hat) | ((with_reducible refine gate_builtin (b := .append) (xs := #[.tmp 42, .tmp 43]) rfl ?_); at_builtin; refine Kd.S_append dL (w0 := w) w.heap.size rfl (.tmp 42) (.tmp 43) 22 34 (.slice none 0 0) 24 rfl Try.underlying22 info34 rfl (by decide) (by omega) (.slice A5 st.rs.length c5) st.rs [] [.slice none 0 0] (fun k => P3 k ∨ w1.heap.size ≤ k) (fun _ => False) rfl rfl ?aP (fun _ hk => hk.elim) ?aF ?aO ?aB ?aS ?aL ?_; (case aP => exact ⟨_, rfl, Kd.R_nil _ _ _ _ _⟩); (case aF => exact fun k hk => .inr hk); (case aO => exact Kd.S_mono HM1.out.hr (fun k hk => ⟨.inl hk, id⟩)); (case aB => exact HM1.out.hb); (case aS => exact HM1.out.hb.size); (case aL => have := HL.out; omega); intro v3 w2 hS hb hg hat; have HM2 := Aside0.mk (HM1.out.app3 hS hb hg); clear hS hb hg hat; have kx2 : w2.cell? ⟨w.heap.size + 1, 1, none⟩ = some (.slice Ax st.cs.length cx) := (blk_cell HM2.out.bx 1).trans rfl; have kz2 : w2.frozen? ⟨w.heap.size + 1, 1, none⟩ = false := blk_frozen HM2.out.bx 1))
           have HM3 := Aside0.mk (HM2.out.setb (.slice A1_ (st.cs.length + 1) c1_))
           generalize w2.setCell ⟨w.heap.size + 1, 1, none⟩ (.slice A1_ (st.cs.length + 1) c1_) = w3 at HM3 ⊢
           have hsne : ¬ s = 0 := by have := HB0.out; omega
           have hi3 : i < 3 := by have := HG.out; unfold mdGood at this; omega
           have hc0 : decide (0 ≤ (i : Int) % 3) = true := decide_eq_true (by omega)
           have hc1 : decide ((i : Int) % 3 < 3) = true := decide_eq_true (by omega)
           have kc : w3.cell? ⟨w.heap.size, 2 + st.cs.length, none⟩ = some (.int .u8 (mdOf a0_2 a0_3 a0_4 st.cs.length)) := by
             rw [← hq]
             have : i % 3 = 0 ∨ i % 3 = 1 ∨ i % 3 = 2 := by omega
             rcases this with e | e | e <;> rw [e] <;> exact (blk_cell HM3.out.bm _).trans rfl
           have hmb : 0 ≤ mdOf a0_2 a0_3 a0_4 st.cs.length ∧ mdOf a0_2 a0_3 a0_4 st.cs.length ≤ 255 := by have := HB2.out; unfold mdOf; split <;> (try split) <;> omega
           have ho : mdOf a0_2 a0_3 a0_4 st.cs.length % s = (wrap64 (mdOf a0_2 a0_3 a0_4 st.cs.length)).tmod s := by
             rw [w64' _ (by omega) (by omega), Int.tmod_eq_emod_of_nonneg (by omega)]
           go_wp2_with ((with_reducible refine gate_builtin (b := .append) (xs := #[.tmp 46, .tmp 54]) rfl ?_); at_builtin; refine Kd.R_append dN (w0 := w) w.heap.size rfl (.tmp 46) (.tmp 54) 34 3 (.int .i64 0) 8 rfl Try.underlying34 info3 rfl (by decide) (by omega) u4 st.os ((wrap64 (mdOf a0_2 a0_3 a0_4 st.cs.length)).tmod s) [.int .i64 ((wrap64 (mdOf a0_2 a0_3 a0_4 st.cs.length)).tmod s)] (fun k => P2 k ∨ w3.heap.size ≤ k) (fun _ => False) rfl rfl ?aP (fun _ hk => hk.elim) ?aF ?aO ?aB ?aS ?aL ?_; (case aP => exact rfl); (case aF => exact fun k hk => .inr hk); (case aO => exact Kd.R_mono HM3.out.ho (fun k hk => .inl hk)); (case aB => exact HM3.out.hb); (case aS => exact HM3.out.hb.size); (case aL => have := HL.out; omega); intro v4 w4 hS hb hg hat; have HM4 := Aside0.mk (HM3.out.app2 hS hb hg); clear hS hb hg hat)
           go_meet
           case rel => exact ⟨_, _, _, _, by rw [hnew, hq, ho]; exact HM4⟩
         · have hqb : (((i : Int) % 3) == (st.cs.length : Int)) = false := beq_eq_false_iff_ne.mpr (by omega)
           rw [hqb]
           go_wp2
           go_meet
           case rel => exact ⟨_, P1, P2, P3, by rw [show mdNew s a0_2 a0_3 a0_4 st i = st from if_neg hq]; exact HM⟩
       case rest =>
         obtain ⟨vx', P1', P2', P3', HM'⟩ := hcut
         have hgt : (l0_5.take 15)[i]? = some (rd_T92 l0_5 (i : Int)) := by
           rw [List.getElem?_take, if_pos (by omega)]
           unfold rd_T92
           rw [Int.toNat_natCast, List.getD_eq_getElem?_getD, List.getElem?_eq_getElem (by omega)]; rfl
         have hxm : rd_T92 l0_5 (i : Int) ∈ l0_5 := List.mem_of_mem_take (List.mem_of_getElem? hgt)
         have hxb := HK.out.2 _ hxm
         unfold isByte at hxb
         have HF' := HF.out
         rw [mdRun_drop _ _ _ _ _ _ _ _ _ hgt] at HF'
         unfold mdStep at HF'
         have HG' := mdNew_good a0_2 a0_3 a0_4 HB0.out HB2.out HG.out
         generalize mdNew s a0_2 a0_3 a0_4 st i = st' at HM' HF' HG'
         obtain ⟨ad, eA, hc0, hc1⟩ := at_T92 HR.out (i : Int) (by omega) (by omega)
         subst eA
         rw [Int.toNat_natCast] at hc0 hc1
         generalize rd_T92 l0_5 (i : Int) = x at hgt hxb HF' hc0 hc1
         replace hc0 := (HM'.out.hb.cell (World.block_lt_of_cell? w _ hc0)).trans hc0
         replace hc1 := (HM'.out.hb.cell (World.block_lt_of_cell? w _ hc1)).trans hc1
         have HFF := Aside0.mk HF'
         have HGG := Aside0.mk HG'
         have HX := Aside0.mk hxb
         clear HF' HG' hgt hxm hxb HF HG HM kx hz
         have hn : st'.cs.length = min (i + 1) 3 ∧ st'.os.length = min (i + 1) 3 ∧ st'.rs.length = min (i + 1) 3 := ⟨HGG.out.1, HGG.out.2.1, HGG.out.2.2.1⟩
         have HN := Aside0.mk hn
         have hcn : i % 3 < min (i + 1) 3 := by omega
         obtain ⟨gx, cx, rfl, _, _, _⟩ := Kd.S_form HM'.out.hs (by omega)
         obtain ⟨gr, cr, rfl, _, _, _⟩ := Kd.S_form HM'.out.hr (by omega)
         obtain ⟨go, co, rfl, _, _, _⟩ := Kd.R_form HM'.out.ho (by omega)
         have k5 : wc.cell? ⟨w.heap.size, 5, none⟩ = some (.slice (some ad) l0_5.length c0_5) := (blk_cell HM'.out.bm 5).trans rfl
         have k0 : wc.cell? ⟨w.heap.size + 1, 0, none⟩ = some (.int .i64 off) := (blk_cell HM'.out.bx 0).trans rfl
         have kx : wc.cell? ⟨w.heap.size + 1, 1, none⟩ = some (.slice (some ⟨gx, 0, none⟩) st'.cs.length cx) := (blk_cell HM'.out.bx 1).trans rfl
         clear hn
         go_upto_region 11 with fail
         obtain ⟨ao, eo, hxo⟩ := Kd.at_int (Kd.R_reads' HM'.out.ho).2.2 ((i : Int) % 3) (by omega) (by have := HN.out; omega)
         cases eo
         rw [add_plain] at hxo
         have q0 : (0 ≤ (i : Int) % 3) = True := eq_true (by omega)
         have q1 : ((i : Int) % 3 < (st'.os.length : Int)) = True := eq_true (by have := HN.out; omega)
         have t1 : wrap64 (2 * off) = 2 * off := w64' _ (by have := HB1.out; omega) (by have := HB1.out; omega)
         have t2 : wrap64 (2 * off + 1) = 2 * off + 1 := w64' _ (by have := HB1.out; omega) (by have := HB1.out; omega)
         have t4 : ¬ IntKind.i64.wrap (IntKind.i64.wrap (2 * off) + 1) = 0 := by rw [i64_w, i64_w, t1, t2]; have := HB1.out; omega
         clear t1 t2
         go_quiet (fail)
         clear hc0 hc1 hxo k0 k5 kx q0 t4
         have HM5 := Aside0.mk (HM'.out.below (W' := wc.drewN nq) (pw_below_drewN (Below.refl _ _) nq))
         generalize wc.drewN nq = w5 at HM5 ⊢
         have er : wrap64 (7 + (wrap64 x.f0).tmod 50) = 7 + x.f0 % 50 := by
          have := HX.out
          rw [w64' x.f0 (by omega) (by omega), Int.tmod_eq_emod_of_nonneg (by omega), w64' _ (by omega) (by omega)]
         rw [er]
         have ep := made_p HB0.out HB1.out HX.out (HGG.out.2.2.2.1) ((i : Int) % 3) (by omega) (by have := HN.out; omega)
         rw [ep]
         clear er ep
         obtain ⟨p, hp⟩ : ∃ p : Int, p = st'.os.getD ((i : Int) % 3).toNat 0 + (7 + x.f0 % 50) * s + x.f1 % (2 * off + 1) - off := ⟨_, rfl⟩
         rw [← hp]
         obtain ⟨r_, hr_⟩ : ∃ r_ : Int, r_ = 7 + x.f0 % 50 := ⟨_, rfl⟩
         rw [← hr_]
         have HP := Aside0.mk (And.intro hp hr_)
         clear hp hr_
         have hel : st'.rs.length = st'.cs.length := by have := HN.out; omega
         rw [hel] at HM5 ⊢
         clear hel
         have hcl : ((i : Int) % 3).toNat < st'.cs.length := by have := HN.out; omega
         obtain ⟨o1, ua, o3, ub, hml⟩ := HM5.out.lend hcl
         have HML := Aside0.mk hml
         have q0 : (0 ≤ (i : Int) % 3) = True := eq_true (by omega)
         have q2 : ((i : Int) % 3 < (st'.cs.length : Int)) = True := eq_true (by have := HN.out; omega)
         have HCL := Aside0.mk hcl
         have HGL := Aside0.mk (made_len HGG.out.2.2.2.2.1 HGG.out.2.2.2.2.2 ((i : Int) % 3).toNat)
         clear hml hcl HM5 HM' q1
         go_upto_region 12 with fail
         refine start_ (n := 24) (S := fun w' => w'.cell? ⟨w.heap.size + 1, 1, none⟩ = some (.slice (some ⟨gx, 0, none⟩) st'.cs.length cx) ∧ w'.cell? ⟨gx, ((i : Int) % 3).toNat, none⟩ = some ua ∧ w'.cell? ⟨gr, ((i : Int) % 3).toNat, none⟩ = some ub) (ds := [21, 23]) #[false, false, false, false, false, false, false, false, false, false, false, false, false, false, false, false, false, false, false, false, false, false, false, false] (by kernel_rfl) rfl rfl ⟨(blk_cell HML.out.bx 1).trans rfl, HML.out.a.cell, HML.out.b.cell⟩ (fun hHeld => ?_)
         refine with_tabW made_tab12 made_bits12 (fun HT_ HW_ => ?_)
         replace HML := Aside0.mk (HML.out.below (below_drew (Below.refl _ _)))
         generalize w5.drew = w6 at HML hHeld ⊢
         refine pure_ (i := 0) (N := some 89) (v := ?_) (a' := ?_) #[true, false, false, false, false, false, false, false, false, false, false, false, false, false, false, false, false, false, false, false, false, false, false, false] rfl rfl (any_of HT_.out (by kernel_rfl)) (fun _ _ _ h => h) (Or.inl ⟨by rfl, ?_⟩) ?_ ?_
         rotate_left
         · intro w'
           go_simp
           with_reducible rfl
         rotate_left
         · simp only [Act.put, List.setIfInBounds_toArray, List.set_cons_zero, List.set_cons_succ, i64_w, i32_w]
           rfl
         refine take_ (i := 1) (N := some 90) (v := ?_) (a' := ?_) #[true, true, false, false, false, false, false, false, false, false, false, false, false, false, false, false, false, false, false, false, false, false, false, false] rfl rfl (take_ofW HT_.out HW_.out (by kernel_rfl)) (fun _ _ _ h => h) (Or.inl ⟨by rfl, ?_⟩) hHeld ?_ ?_
         rotate_left
         · rintro w' ⟨s0, s1, s2⟩
           go_simp
           with_reducible rfl
         rotate_left
         · simp only [Act.put, List.setIfInBounds_toArray, List.set_cons_zero, List.set_cons_succ, i64_w, i32_w]
           rfl
         refine pure_ (i := 2) (N := some 91) (v := ?_) (a' := ?_) #[true, true, true, false, false, false, false, false, false, false, false, false, false, false, false, false, false, false, false, false, false, false, false, false] rfl rfl (any_of HT_.out (by kernel_rfl)) (fun _ _ _ h => h) (Or.inl ⟨by rfl, ?_⟩) ?_ ?_
         rotate_left
         · intro w'
           go_simp
           with_reducible rfl
         rotate_left
         · simp only [Act.put, List.setIfInBounds_toArray, List.set_cons_zero, List.set_cons_succ, i64_w, i32_w]
           rfl
         refine pure_ (i := 3) (N := some 92) (v := ?_) (a' := ?_) #[true, true, true, true, false, false, false, false, false, false, false, false, false, false, false, false, false, false, false, false, false, false, false, false] rfl rfl (any_of HT_.out (by kernel_rfl)) (fun _ _ _ h => h) (Or.inl ⟨by rfl, ?_⟩) ?_ ?_
         rotate_left
         · intro w'
           go_simp
           with_reducible rfl
         rotate_left
         · simp only [Act.put, List.setIfInBounds_toArray, List.set_cons_zero, List.set_cons_succ, i64_w, i32_w]
           rfl
         refine pure_ (i := 4) (N := some 93) (v := ?_) (a' := ?_) #[true, true, true, true, true, false, false, false, false, false, false, false, false, false, false, false, false, false, false, false, false, false, false, false] rfl rfl (any_of HT_.out (by kernel_rfl)) (fun _ _ _ h => h) (Or.inl ⟨by rfl, ?_⟩) ?_ ?_
         rotate_left
         · intro w'
           go_simp
           with_reducible rfl
         rotate_left
         · simp only [Act.put, List.setIfInBounds_toArray, List.set_cons_zero, List.set_cons_succ, i64_w, i32_w]
           rfl
         refine pure_ (i := 5) (N := some 94) (v := ?_) (a' := ?_) #[true, true, true, true, true, true, false, false, false, false, false, false, false, false, false, false, false, false, false, false, false, false, false, false] rfl rfl (any_of HT_.out (by kernel_rfl)) (fun _ _ _ h => h) (Or.inl ⟨by rfl, ?_⟩) ?_ ?_
         rotate_left
         · intro w'
           go_simp
           with_reducible rfl
         rotate_left
         · simp only [Act.put, List.setIfInBounds_toArray, List.set_cons_zero, List.set_cons_succ, i64_w, i32_w]
           rfl
         refine take_ (i := 6) (N := some 95) (v := ?_) (a' := ?_) #[true, true, true, true, true, true, true, false, false, false, false, false, false, false, false, false, false, false, false, false, false, false, false, false] rfl rfl (take_ofW HT_.out HW_.out (by kernel_rfl)) (fun _ _ _ h => h) (Or.inl ⟨by rfl, ?_⟩) hHeld ?_ ?_
         rotate_left
         · rintro w' ⟨s0, s1, s2⟩
           go_simp
           with_reducible rfl
         rotate_left
         · simp only [Act.put, List.setIfInBounds_toArray, List.set_cons_zero, List.set_cons_succ, i64_w, i32_w]
           rfl
         refine pure_ (i := 7) (N := some 96) (v := ?_) (a' := ?_) #[true, true, true, true, true, true, true, true, false, false, false, false, false, false, false, false, false, false, false, false, false, false, false, false] rfl rfl (any_of HT_.out (by kernel_rfl)) (fun _ _ _ h => h) (Or.inl ⟨by rfl, ?_⟩) ?_ ?_
         rotate_left
         · intro w'
           go_simp
           with_reducible rfl
         rotate_left
         · simp only [Act.put, List.setIfInBounds_toArray, List.set_cons_zero, List.set_cons_succ, i64_w, i32_w]
           rfl
         refine pure_ (i := 8) (N := some 97) (v := ?_) (a' := ?_) #[true, true, true, true, true, true, true, true, true, false, false, false, false, false, false, false, false, false, false, false, false, false, false, false] rfl rfl (any_of HT_.out (by kernel_rfl)) (fun _ _ _ h => h) (Or.inl ⟨by rfl, ?_⟩) ?_ ?_
         rotate_left
         · intro w'
           go_simp
           with_reducible rfl
         rotate_left
         · simp only [Act.put, List.setIfInBounds_toArray, List.set_cons_zero, List.set_cons_succ, i64_w, i32_w]
           rfl
         refine take_ (i := 9) (N := some 98) (v := ?_) (a' := ?_) #[true, true, true, true, true, true, true, true, true, true, false, false, false, false, false, false, false, false, false, false, false, false, false, false] rfl rfl (take_ofW HT_.out HW_.out (by kernel_rfl)) (fun _ _ _ h => h) (Or.inl ⟨by rfl, ?_⟩) hHeld ?_ ?_
         rotate_left
         · rintro w' ⟨s0, s1, s2⟩
           go_simp
           with_reducible rfl
         rotate_left
         · simp only [Act.put, List.setIfInBounds_toArray, List.set_cons_zero, List.set_cons_succ, i64_w, i32_w]
           rfl
         refine pure_ (i := 10) (N := some 99) (v := ?_) (a' := ?_) #[true, true, true, true, true, true, true, true, true, true, true, false, false, false, false, false, false, false, false, false, false, false, false, false] rfl rfl (any_of HT_.out (by kernel_rfl)) (fun _ _ _ h => h) (Or.inl ⟨by rfl, ?_⟩) ?_ ?_
         rotate_left
         · intro w'
           go_simp
           with_reducible rfl
         rotate_left
         · simp only [Act.put, List.setIfInBounds_toArray, List.set_cons_zero, List.set_cons_succ, i64_w, i32_w]
           rfl
         refine pure_ (i := 13) (N := some 102) (v := ?_) (a' := ?_) #[true, true, true, true, true, true, true, true, true, true, true, false, false, true, false, false, false, false, false, false, false, false, false, false] rfl rfl (any_of HT_.out (by kernel_rfl)) (fun _ _ _ h => h) (Or.inl ⟨by rfl, ?_⟩) ?_ ?_
         rotate_left
         · intro w'
           go_simp
           with_reducible rfl
         rotate_left
         · simp only [Act.put, List.setIfInBounds_toArray, List.set_cons_zero, List.set_cons_succ, i64_w, i32_w]
           rfl
         refine pure_ (i := 14) (N := some 103) (v := ?_) (a' := ?_) #[true, true, true, true, true, true, true, true, true, true, true, false, false, true, true, false, false, false, false, false, false, false, false, false] rfl rfl (any_of HT_.out (by kernel_rfl)) (fun _ _ _ h => h) (Or.inl ⟨by rfl, ?_⟩) ?_ ?_
         rotate_left
         · intro w'
           go_simp
           with_reducible rfl
         rotate_left
         · simp only [Act.put, List.setIfInBounds_toArray, List.set_cons_zero, List.set_cons_succ, i64_w, i32_w]
           rfl
         refine pure_ (i := 15) (N := some 104) (v := ?_) (a' := ?_) #[true, true, true, true, true, true, true, true, true, true, true, false, false, true, true, true, false, false, false, false, false, false, false, false] rfl rfl (any_of HT_.out (by kernel_rfl)) (fun _ _ _ h => h) (Or.inl ⟨by rfl, ?_⟩) ?_ ?_
         rotate_left
         · intro w'
           go_simp
           with_reducible rfl
         rotate_left
         · simp only [Act.put, List.setIfInBounds_toArray, List.set_cons_zero, List.set_cons_succ, i64_w, i32_w]
           rfl
         refine take_ (i := 16) (N := some 105) (v := ?_) (a' := ?_) #[true, true, true, true, true, true, true, true, true, true, true, false, false, true, true, true, true, false, false, false, false, false, false, false] rfl rfl (take_ofW HT_.out HW_.out (by kernel_rfl)) (fun _ _ _ h => h) (Or.inl ⟨by rfl, ?_⟩) hHeld ?_ ?_
         rotate_left
         · rintro w' ⟨s0, s1, s2⟩
           go_simp
           with_reducible rfl
         rotate_left
         · simp only [Act.put, List.setIfInBounds_toArray, List.set_cons_zero, List.set_cons_succ, i64_w, i32_w]
           rfl
         refine pure_ (i := 17) (N := some 106) (v := ?_) (a' := ?_) #[true, true, true, true, true, true, true, true, true, true, true, false, false, true, true, true, true, true, false, false, false, false, false, false] rfl rfl (any_of HT_.out (by kernel_rfl)) (fun _ _ _ h => h) (Or.inl ⟨by rfl, ?_⟩) ?_ ?_
         rotate_left
         · intro w'
           go_simp
           with_reducible rfl
         rotate_left
         · simp only [Act.put, List.setIfInBounds_toArray, List.set_cons_zero, List.set_cons_succ, i64_w, i32_w]
           rfl
         refine join_ (σ := Value × Value × Value) 5 #[true, true, true, true, true, true, true, true, true, true, true, true, true, true, true, true, true, true, true, false, false, false, false, false] (fun s_ => [(100, s_.1), (101, s_.2.1), (107, s_.2.2)]) (fun s_ w_ => ∃ (P1_ o1_ : Nat → Prop), (w_.cell? ⟨w.heap.size + 1, 1, none⟩ = some (.slice (some ⟨gx, 0, none⟩) st'.cs.length cx) ∧ w_.cell? ⟨gx, ((i : Int) % 3).toNat, none⟩ = some ua ∧ w_.cell? ⟨gr, ((i : Int) % 3).toNat, none⟩ = some ub) ∧ ML w w_ #[.int .u8 a0_0, .int .u8 a0_1, .int .u8 a0_2, .int .u8 a0_3, .int .u8 a0_4, .slice (some ad) l0_5.length c0_5] off P1_ P2' P3' gx gr st'.cs.length cx cr (.slice (some ⟨go, 0, none⟩) st'.os.length co) st' ((i : Int) % 3).toNat o1_ o3 ua ub s_.2.1 ub (st'.cs.getD ((i : Int) % 3).toNat [] ++ [p]) (st'.rs.getD ((i : Int) % 3).toNat []) ∧ LitR w.heap.size w_ P1_ P2' P3' s_.2.2 [r_]) ?_ ?_
         rotate_left
         · intro hCont
           refine two_ (i := 11) (j := 18) (Ni := some 100) (Nj := some 107) #[true, true, true, true, true, true, true, true, true, true, true, true, false, true, true, true, true, true, false, false, false, false, false, false] #[true, true, true, true, true, true, true, true, true, true, true, false, false, true, true, true, true, true, true, false, false, false, false, false] rfl rfl rfl rfl (two_of HT_.out (by kernel_rfl)) (by decide) (by decide) (fun K hK => ?_) (fun K hK => ?_)
           · skip
             refine Kd.R_lit_step dN _ 3 ?hg (N := 100) ?hd (xs := ([p] : List Int)) (inner := [.int .i64 p]) (ok := fun _ => True) (okp := fun _ => True) ?hr ?hp (fun _ hk => hk) trivial (Below.refl _ _) (Nat.le_refl _) (by simp) ?_
             (case hd => rfl)
             (case hg => rfl)
             (case hr => first | (go_simp; done) | (go_simp; rfl))
             (case hp => exact (Reps.one (show Kd.M dN _ _ _ p [.int .i64 p] from rfl) (Reps.none _ _)))
             intro v100 w_L1 ho_ hb_ hg_ hnew_
             have L1 := Aside0.mk (HML.out.lit ho_)
             replace HML := Aside0.mk (HML.out.below hb_)
             clear ho_ hb_ hg_ hnew_
             obtain ⟨AL1, cL1, rfl⟩ := Kd.R_slice L1.out
             refine hK.out _ _ ⟨(blk_cell HML.out.bx 1).trans rfl, HML.out.a.cell, HML.out.b.cell⟩ (fun hHeld => ?_)
             clear hK K
             refine norm_ (a' := ?_) ?_ ?_
             rotate_left
             · show Act.put _ (some 100) _ = _
               simp only [Act.put, List.setIfInBounds_toArray, List.set_cons_zero, List.set_cons_succ, i64_w, i32_w]
               rfl
             refine two_ (i := 12) (j := 18) (Ni := some 101) (Nj := some 107) #[true, true, true, true, true, true, true, true, true, true, true, true, true, true, true, true, true, true, false, false, false, false, false, false] #[true, true, true, true, true, true, true, true, true, true, true, true, false, true, true, true, true, true, true, false, false, false, false, false] rfl rfl rfl rfl (two_of HT_.out (by kernel_rfl)) (by decide) (by decide) (fun K hK => ?_) (fun K hK => ?_)
             · skip
               refine Kd.R_append_rows_step dN (w0 := w) w.heap.size (by rfl) (.tmp 98) (.tmp 100) 34 3 (.int .i64 0) 8 rfl Try.underlying34 info3 rfl (by decide) (by omega) ua (st'.cs.getD ((i : Int) % 3).toNat []) [p] _ _ _ (fun k => o1 k ∨ w_L1.heap.size ≤ k) (fun _ => False) rfl rfl ?aO ?aR (fun _ _ h => h) (fun _ h => h.elim) ?aF ?aB ?aS ?aL ?_
               (case aO => exact Kd.R_mono HML.out.a.R (fun k hk => .inl hk))
               (case aR => exact (Kd.R_reads' L1.out).2.2)
               (case aF => exact fun k hk => .inr hk)
               (case aB => exact HML.out.hb)
               (case aS => exact HML.out.hb.size)
               (case aL => have h1 := HGL.out; have h2 := HI.out; simp only [List.length_cons, List.length_nil]; omega)
               intro v101 w_A ho_ hb_ hg_ hat_
               replace HML := Aside0.mk (HML.out.appA ho_ hb_ hg_)
               clear ho_ hb_ hg_ hat_ L1
               obtain ⟨A101, c101, e101⟩ := Kd.R_slice HML.out.a.R
               simp only [List.length_append, List.length_cons, List.length_nil, Nat.zero_add] at e101
               subst e101
               refine hK.out _ _ ⟨(blk_cell HML.out.bx 1).trans rfl, HML.out.a.cell, HML.out.b.cell⟩ (fun hHeld => ?_)
               clear hK K
               refine norm_ (a' := ?_) ?_ ?_
               rotate_left
               · show Act.put _ (some 101) _ = _
                 simp only [Act.put, List.setIfInBounds_toArray, List.set_cons_zero, List.set_cons_succ, i64_w, i32_w]
                 rfl
               refine one_ (i := 18) (N := some 107) #[true, true, true, true, true, true, true, true, true, true, true, true, true, true, true, true, true, true, true, false, false, false, false, false] rfl rfl (one_of HT_.out (by kernel_rfl)) (by decide) (fun K hK => ?_)
               refine Kd.R_lit_step dN _ 3 ?hg (N := 107) ?hd (xs := ([r_] : List Int)) (inner := [.int .i64 r_]) (ok := fun _ => True) (okp := fun _ => True) ?hr ?hp (fun _ hk => hk) trivial (Below.refl _ _) (Nat.le_refl _) (by simp) ?_
               (case hd => rfl)
               (case hg => rfl)
               (case hr => first | (go_simp; done) | (go_simp; rfl))
               (case hp => exact (Reps.one (show Kd.M dN _ _ _ r_ [.int .i64 r_] from rfl) (Reps.none _ _)))
               intro v107 w_L2 ho_ hb_ hg_ hnew_
               have L2 := Aside0.mk (HML.out.lit ho_)
               replace HML := Aside0.mk (HML.out.below hb_)
               clear ho_ hb_ hg_ hnew_
               obtain ⟨AL2, cL2, rfl⟩ := Kd.R_slice L2.out
               refine hK.out _ _ ⟨(blk_cell HML.out.bx 1).trans rfl, HML.out.a.cell, HML.out.b.cell⟩ (fun hHeld => ?_)
               clear hK K
               refine norm_ (a' := ?_) ?_ ?_
               rotate_left
               · show Act.put _ (some 107) _ = _
                 simp only [Act.put, List.setIfInBounds_toArray, List.set_cons_zero, List.set_cons_succ, i64_w, i32_w]
                 rfl
               exact norm_ (by simp only [putAll, Act.put, List.setIfInBounds_toArray, List.set_cons_zero, List.set_cons_succ]) (hCont (.slice AL1 [p].length cL1, _, .slice AL2 [r_].length cL2) _ ⟨_, _, hHeld, HML.out, L2.out⟩)
             · skip
               refine Kd.R_lit_step dN _ 3 ?hg (N := 107) ?hd (xs := ([r_] : List Int)) (inner := [.int .i64 r_]) (ok := fun _ => True) (okp := fun _ => True) ?hr ?hp (fun _ hk => hk) trivial (Below.refl _ _) (Nat.le_refl _) (by simp) ?_
               (case hd => rfl)
               (case hg => rfl)
               (case hr => first | (go_simp; done) | (go_simp; rfl))
               (case hp => exact (Reps.one (show Kd.M dN _ _ _ r_ [.int .i64 r_] from rfl) (Reps.none _ _)))
               intro v107 w_L2 ho_ hb_ hg_ hnew_
               have L2 := Aside0.mk (HML.out.lit ho_)
               replace L1 := Aside0.mk (L1.out.below hb_)
               replace HML := Aside0.mk (HML.out.below hb_)
               clear ho_ hb_ hg_ hnew_
               obtain ⟨AL2, cL2, rfl⟩ := Kd.R_slice L2.out
               refine hK.out _ _ ⟨(blk_cell HML.out.bx 1).trans rfl, HML.out.a.cell, HML.out.b.cell⟩ (fun hHeld => ?_)
               clear hK K
               refine norm_ (a' := ?_) ?_ ?_
               rotate_left
               · show Act.put _ (some 107) _ = _
                 simp only [Act.put, List.setIfInBounds_toArray, List.set_cons_zero, List.set_cons_succ, i64_w, i32_w]
                 rfl
               refine one_ (i := 12) (N := some 101) #[true, true, true, true, true, true, true, true, true, true, true, true, true, true, true, true, true, true, true, false, false, false, false, false] rfl rfl (one_of HT_.out (by kernel_rfl)) (by decide) (fun K hK => ?_)
               refine Kd.R_append_rows_step dN (w0 := w) w.heap.size (by rfl) (.tmp 98) (.tmp 100) 34 3 (.int .i64 0) 8 rfl Try.underlying34 info3 rfl (by decide) (by omega) ua (st'.cs.getD ((i : Int) % 3).toNat []) [p] _ _ _ (fun k => o1 k ∨ w_L2.heap.size ≤ k) (fun _ => False) rfl rfl ?aO ?aR (fun _ _ h => h) (fun _ h => h.elim) ?aF ?aB ?aS ?aL ?_
               (case aO => exact Kd.R_mono HML.out.a.R (fun k hk => .inl hk))
               (case aR => exact (Kd.R_reads' L1.out).2.2)
               (case aF => exact fun k hk => .inr hk)
               (case aB => exact HML.out.hb)
               (case aS => exact HML.out.hb.size)
               (case aL => have h1 := HGL.out; have h2 := HI.out; simp only [List.length_cons, List.length_nil]; omega)
               intro v101 w_A ho_ hb_ hg_ hat_
               replace L2 := Aside0.mk (HML.out.litA L2.out hg_)
               replace HML := Aside0.mk (HML.out.appA ho_ hb_ hg_)
               clear ho_ hb_ hg_ hat_ L1
               obtain ⟨A101, c101, e101⟩ := Kd.R_slice HML.out.a.R
               simp only [List.length_append, List.length_cons, List.length_nil, Nat.zero_add] at e101
               subst e101
               refine hK.out _ _ ⟨(blk_cell HML.out.bx 1).trans rfl, HML.out.a.cell, HML.out.b.cell⟩ (fun hHeld => ?_)
               clear hK K
               refine norm_ (a' := ?_) ?_ ?_
               rotate_left
               · show Act.put _ (some 101) _ = _
                 simp only [Act.put, List.setIfInBounds_toArray, List.set_cons_zero, List.set_cons_succ, i64_w, i32_w]
                 rfl
               exact norm_ (by simp only [putAll, Act.put, List.setIfInBounds_toArray, List.set_cons_zero, List.set_cons_succ]) (hCont (.slice AL1 [p].length cL1, _, .slice AL2 [r_].length cL2) _ ⟨_, _, hHeld, HML.out, L2.out⟩)
           · skip
             refine Kd.R_lit_step dN _ 3 ?hg (N := 107) ?hd (xs := ([r_] : List Int)) (inner := [.int .i64 r_]) (ok := fun _ => True) (okp := fun _ => True) ?hr ?hp (fun _ hk => hk) trivial (Below.refl _ _) (Nat.le_refl _) (by simp) ?_
             (case hd => rfl)
             (case hg => rfl)
             (case hr => first | (go_simp; done) | (go_simp; rfl))
             (case hp => exact (Reps.one (show Kd.M dN _ _ _ r_ [.int .i64 r_] from rfl) (Reps.none _ _)))
             intro v107 w_L2 ho_ hb_ hg_ hnew_
             have L2 := Aside0.mk (HML.out.lit ho_)
             replace HML := Aside0.mk (HML.out.below hb_)
             clear ho_ hb_ hg_ hnew_
             obtain ⟨AL2, cL2, rfl⟩ := Kd.R_slice L2.out
             refine hK.out _ _ ⟨(blk_cell HML.out.bx 1).trans rfl, HML.out.a.cell, HML.out.b.cell⟩ (fun hHeld => ?_)
             clear hK K
             refine norm_ (a' := ?_) ?_ ?_
             rotate_left
             · show Act.put _ (some 107) _ = _
               simp only [Act.put, List.setIfInBounds_toArray, List.set_cons_zero, List.set_cons_succ, i64_w, i32_w]
               rfl
             refine one_ (i := 11) (N := some 100) #[true, true, true, true, true, true, true, true, true, true, true, true, false, true, true, true, true, true, true, false, false, false, false, false] rfl rfl (one_of HT_.out (by kernel_rfl)) (by decide) (fun K hK => ?_)
             refine Kd.R_lit_step dN _ 3 ?hg (N := 100) ?hd (xs := ([p] : List Int)) (inner := [.int .i64 p]) (ok := fun _ => True) (okp := fun _ => True) ?hr ?hp (fun _ hk => hk) trivial (Below.refl _ _) (Nat.le_refl _) (by simp) ?_
             (case hd => rfl)
             (case hg => rfl)
             (case hr => first | (go_simp; done) | (go_simp; rfl))
             (case hp => exact (Reps.one (show Kd.M dN _ _ _ p [.int .i64 p] from rfl) (Reps.none _ _)))
             intro v100 w_L1 ho_ hb_ hg_ hnew_
             have L1 := Aside0.mk (HML.out.lit ho_)
             replace L2 := Aside0.mk (L2.out.below hb_)
             replace HML := Aside0.mk (HML.out.below hb_)
             clear ho_ hb_ hg_ hnew_
             obtain ⟨AL1, cL1, rfl⟩ := Kd.R_slice L1.out
             refine hK.out _ _ ⟨(blk_cell HML.out.bx 1).trans rfl, HML.out.a.cell, HML.out.b.cell⟩ (fun hHeld => ?_)
             clear hK K
             refine norm_ (a' := ?_) ?_ ?_
             rotate_left
             · show Act.put _ (some 100) _ = _
               simp only [Act.put, List.setIfInBounds_toArray, List.set_cons_zero, List.set_cons_succ, i64_w, i32_w]
               rfl
             refine one_ (i := 12) (N := some 101) #[true, true, true, true, true, true, true, true, true, true, true, true, true, true, true, true, true, true, true, false, false, false, false, false] rfl rfl (one_of HT_.out (by kernel_rfl)) (by decide) (fun K hK => ?_)
             refine Kd.R_append_rows_step dN (w0 := w) w.heap.size (by rfl) (.tmp 98) (.tmp 100) 34 3 (.int .i64 0) 8 rfl Try.underlying34 info3 rfl (by decide) (by omega) ua (st'.cs.getD ((i : Int) % 3).toNat []) [p] _ _ _ (fun k => o1 k ∨ w_L1.heap.size ≤ k) (fun _ => False) rfl rfl ?aO ?aR (fun _ _ h => h) (fun _ h => h.elim) ?aF ?aB ?aS ?aL ?_
             (case aO => exact Kd.R_mono HML.out.a.R (fun k hk => .inl hk))
             (case aR => exact (Kd.R_reads' L1.out).2.2)
             (case aF => exact fun k hk => .inr hk)
             (case aB => exact HML.out.hb)
             (case aS => exact HML.out.hb.size)
             (case aL => have h1 := HGL.out; have h2 := HI.out; simp only [List.length_cons, List.length_nil]; omega)
             intro v101 w_A ho_ hb_ hg_ hat_
             replace L2 := Aside0.mk (HML.out.litA L2.out hg_)
             replace HML := Aside0.mk (HML.out.appA ho_ hb_ hg_)
             clear ho_ hb_ hg_ hat_ L1
             obtain ⟨A101, c101, e101⟩ := Kd.R_slice HML.out.a.R
             simp only [List.length_append, List.length_cons, List.length_nil, Nat.zero_add] at e101
             subst e101
             refine hK.out _ _ ⟨(blk_cell HML.out.bx 1).trans rfl, HML.out.a.cell, HML.out.b.cell⟩ (fun hHeld => ?_)
             clear hK K
             refine norm_ (a' := ?_) ?_ ?_
             rotate_left
             · show Act.put _ (some 101) _ = _
               simp only [Act.put, List.setIfInBounds_toArray, List.set_cons_zero, List.set_cons_succ, i64_w, i32_w]
               rfl
             exact norm_ (by simp only [putAll, Act.put, List.setIfInBounds_toArray, List.set_cons_zero, List.set_cons_succ]) (hCont (.slice AL1 [p].length cL1, _, .slice AL2 [r_].length cL2) _ ⟨_, _, hHeld, HML.out, L2.out⟩)
         rintro ⟨v100, v101, v107⟩ w7 ⟨P1_, o1_, hHeld, hml_, hl2_⟩
         have HML := Aside0.mk hml_
         have L2 := Aside0.mk hl2_
         clear hml_ hl2_
         dsimp only at HML L2
         obtain ⟨AL2, cL2, rfl⟩ := Kd.R_slice L2.out
         obtain ⟨A101, c101, e101⟩ := Kd.R_slice HML.out.a.R
         simp only [List.length_append, List.length_cons, List.length_nil, Nat.zero_add] at e101
         subst e101
         refine norm_ (a' := ?_) ?_ ?_
         rotate_left
         · simp only [putAll, Act.put, List.setIfInBounds_toArray, List.set_cons_zero, List.set_cons_succ]
           rfl
         refine one_ (i := 19) (N := some 108) #[true, true, true, true, true, true, true, true, true, true, true, true, true, true, true, true, true, true, true, true, false, false, false, false] rfl rfl (one_of HT_.out (by kernel_rfl)) (by decide) (fun K hK => ?_)
         refine Kd.R_append_rows_step dN (w0 := w) w.heap.size (by rfl) (.tmp 105) (.tmp 107) 34 3 (.int .i64 0) 8 rfl Try.underlying34 info3 rfl (by decide) (by omega) ub (st'.rs.getD ((i : Int) % 3).toNat []) [r_] _ _ _ (fun k => o3 k ∨ w7.heap.size ≤ k) (fun _ => False) rfl rfl ?aO ?aR (fun _ _ h => h) (fun _ h => h.elim) ?aF ?aB ?aS ?aL ?_
         (case aO => exact Kd.R_mono HML.out.b.R (fun k hk => .inl hk))
         (case aR => exact (Kd.R_reads' L2.out).2.2)
         (case aF => exact fun k hk => .inr hk)
         (case aB => exact HML.out.hb)
         (case aS => exact HML.out.hb.size)
         (case aL => have h1 := HGL.out; have h2 := HI.out; simp only [List.length_cons, List.length_nil]; omega)
         intro v108 w8 ho_ hb_ hg_ hat_
         replace HML := Aside0.mk (HML.out.appB ho_ hb_ hg_)
         clear ho_ hb_ hg_ hat_ L2
         obtain ⟨A108, c108, e108⟩ := Kd.R_slice HML.out.b.R
         simp only [List.length_append, List.length_cons, List.length_nil, Nat.zero_add] at e108
         subst e108
         refine hK.out _ _ ⟨(blk_cell HML.out.bx 1).trans rfl, HML.out.a.cell, HML.out.b.cell⟩ (fun hHeld => ?_)
         clear hK K
         refine norm_ (a' := ?_) ?_ ?_
         rotate_left
         · show Act.put _ (some 108) _ = _
           simp only [Act.put, List.setIfInBounds_toArray, List.set_cons_zero, List.set_cons_succ, i64_w, i32_w]
           rfl
         refine pure_ (i := 20) (N := some 109) (v := ?_) (a' := ?_) #[true, true, true, true, true, true, true, true, true, true, true, true, true, true, true, true, true, true, true, true, true, false, false, false] rfl rfl (any_of HT_.out (by kernel_rfl)) (fun _ _ _ h => h) (Or.inl ⟨by rfl, ?_⟩) ?_ ?_
         rotate_left
         · intro w'
           go_simp
           with_reducible rfl
         rotate_left
         · simp only [Act.put, List.setIfInBounds_toArray, List.set_cons_zero, List.set_cons_succ, i64_w, i32_w]
           rfl
         obtain ⟨f1, f2, f3⟩ := HML.out.fin HCL.out
         have s1 := HML.out.a.cell
         have s2 := HML.out.a.frozen
         clear HML hHeld
         refine last_ (i := 21) (N := none) #[true, true, true, true, true, true, true, true, true, true, true, true, true, true, true, true, true, true, true, true, true, true, false, false] rfl rfl (one_of HT_.out (by kernel_rfl)) (by decide) (fun K hK => ?_)
         refine store_step (w1 := w8.setCell ⟨gx, ((i : Int) % 3).toNat, none⟩ (.slice A101 ((st'.cs.getD ((i : Int) % 3).toNat []).length + 1) c101)) (by rfl) rfl ?hr ?_
         (case hr => first | (go_simp; done) | (go_simp; rfl))
         refine hK.out _ _ ?_
         clear hK K
         generalize w8.setCell ⟨gx, ((i : Int) % 3).toNat, none⟩ (.slice A101 ((st'.cs.getD ((i : Int) % 3).toNat []).length + 1) c101) = w9 at f1 f2 f3 ⊢
         clear s1 s2
         refine pure_ (i := 22) (N := some 110) (v := ?_) (a' := ?_) #[true, true, true, true, true, true, true, true, true, true, true, true, true, true, true, true, true, true, true, true, true, true, true, false] rfl rfl (any_of HT_.out (by kernel_rfl)) (fun _ _ _ h => h) (Or.inl ⟨by rfl, ?_⟩) ?_ ?_
         rotate_left
         · intro w'
           go_simp
           with_reducible rfl
         rotate_left
         · simp only [Act.put, List.setIfInBounds_toArray, List.set_cons_zero, List.set_cons_succ, i64_w, i32_w]
           rfl
         refine last_ (i := 23) (N := none) #[true, true, true, true, true, true, true, true, true, true, true, true, true, true, true, true, true, true, true, true, true, true, true, true] rfl rfl (one_of HT_.out (by kernel_rfl)) (by decide) (fun K hK => ?_)
         refine store_step (w1 := w9.setCell ⟨gr, ((i : Int) % 3).toNat, none⟩ (.slice A108 ((st'.rs.getD ((i : Int) % 3).toNat []).length + 1) c108)) (by rfl) rfl ?hr ?_
         (case hr => first | (go_simp; done) | (go_simp; rfl))
         refine hK.out _ _ ?_
         clear hK K
         generalize w9.setCell ⟨gr, ((i : Int) % 3).toNat, none⟩ (.slice A108 ((st'.rs.getD ((i : Int) % 3).toNat []).length + 1) c108) = w10 at f3 ⊢
         clear f1 f2
         obtain ⟨P1f, P3f, HMF⟩ : ∃ P1f P3f : Nat → Prop, Aside0 (MI w w10 #[.int .u8 a0_0, .int .u8 a0_1, .int .u8 a0_2, .int .u8 a0_3, .int .u8 a0_4, .slice (some ad) l0_5.length c0_5] off P1f P2' P3f (.slice (some ⟨gx, 0, none⟩) st'.cs.length cx) (.slice (some ⟨gx, 0, none⟩) st'.cs.length cx) (.slice (some ⟨go, 0, none⟩) st'.os.length co) (.slice (some ⟨gr, 0, none⟩) st'.cs.length cr) ⟨st'.cs.set ((i : Int) % 3).toNat (st'.cs.getD ((i : Int) % 3).toNat [] ++ [p]), st'.os, st'.rs.set ((i : Int) % 3).toNat (st'.rs.getD ((i : Int) % 3).toNat [] ++ [r_])⟩) := ⟨_, _, ⟨f3⟩⟩
         clear f3
         refine done_ (done_of HT_.out (by kernel_rfl)) ?_
         clear HT_ HW_ h1 h2 h3 hm hu24 hu59
         clear q0 q2
         go_wp2
         go_roundg (15 - (i + 1))
         case measure => have := HI.out; omega
         case rel =>
           have eC : ((i : Int) % 3).toNat = i % 3 := by omega
           exact ⟨i + 1, (.slice (some ⟨gx, 0, none⟩) st'.cs.length cx), mdPut s off st' (i % 3) x, P1f, P2', P3f, rfl, ⟨by omega, by omega, Nat.le_refl _⟩, ⟨mdPut_good HGG.out⟩, HFF, ⟨by unfold mdPut; rw [← eC, ← HP.out.1, ← HP.out.2]; exact HMF.out⟩⟩
     ·
       have hdr : (l0_5.take 15).drop i = [] := by rw [List.drop_eq_nil_iff, List.length_take]; have := HI.out; omega
       have HF' := HF.out
       rw [hdr] at HF'
       have HFF := Aside0.mk (show mdEnd s off st = (r1, r2, r3, r4, r5) from HF')
       clear HF' hdr
       obtain ⟨Ax, cx, rfl⟩ := Kd.S_slice HM.out.hs
       have k5 : wr.cell? ⟨w.heap.size, 5, none⟩ = some (.slice A0_5 l0_5.length c0_5) := (blk_cell HM.out.bm 5).trans rfl
       have hcase : (i < l0_5.length ∧ ¬ i < 15 ∧ decide ((i : Int) < (l0_5.length : Int)) = true ∧ decide ((i : Int) < 15) = false) ∨ (¬ i < l0_5.length ∧ decide ((i : Int) < (l0_5.length : Int)) = false) := by
         by_cases e : i < l0_5.length
         · exact .inl ⟨e, by omega, decide_eq_true (by omega), decide_eq_false (by omega)⟩
         · exact .inr ⟨e, decide_eq_false (by omega)⟩
       rcases hcase with ⟨ha, hb, h1, h2⟩ | ⟨ha, h1⟩
       ·
         have kx : wr.cell? ⟨w.heap.size + 1, 1, none⟩ = some (.slice Ax st.cs.length cx) := (blk_cell HM.out.bx 1).trans rfl
         go_upto_if 114 with fail
         go_cut [4, 5] (fun v4' v5' wc => ∃ (vx' : Value) (P1 P2 P3 : Nat → Prop), Aside0 (off = r1 ∧ s = r3) ∧ Aside0 (MI w wc #[.int .u8 a0_0, .int .u8 a0_1, .int .u8 a0_2, .int .u8 a0_3, .int .u8 a0_4, .slice A0_5 l0_5.length c0_5] off P1 P2 P3 vx' vx' v4' v5' ⟨r2, r4, r5⟩))
         case first =>
           by_cases he : st.cs = []
           · have heb : (((st.cs.length : Nat) : Int) == 0) = true := by rw [he]; rfl
             have hr := HFF.out
             unfold mdEnd at hr
             rw [if_pos he] at hr
             simp only [Prod.mk.injEq] at hr
             obtain ⟨e1, e2, e3, e4, e5⟩ := hr
             have HE := Aside0.mk (And.intro e1 (And.intro e2 (And.intro e3 (And.intro e4 e5))))
             clear e1 e2 e3 e4 e5 he
             go_wp2_with (first | ((with_reducible refine gate_dst (N := 117) rfl ?_); refine Kd.R_lit dN wr.heap.size 3 ?hg (N := 117) ?hd (xs := ([wrap64 (7 * s)] : List Int)) (inner := [.int .i64 (wrap64 (7 * s))]) (ok := fun _ => True) (okp := fun _ => True) ?hr ?hp (fun _ hk => hk) trivial (Below.refl _ _) (Nat.le_refl _) (by simp) ?_; (case hd => rfl); (case hg => rfl); (case hr => first | (go_simp; done) | (go_simp; rfl)); (case hp => exact (Reps.one (show Kd.M dN _ _ _ (wrap64 (7 * s)) [.int .i64 (wrap64 (7 * s))] from rfl) (Reps.none _ _))); intro v1 w1 ho_ hb_ hg_ hnew_; clear hg_ hnew_; obtain ⟨A1, c1, rfl⟩ := Kd.R_slice ho_; have R1 := Aside0.mk ho_; clear ho_; have B1 := Aside0.mk hb_; clear hb_) | ((with_reducible refine gate_dst (N := 118) rfl ?_); refine Kd.R_lit dL wr.heap.size 34 ?hg (N := 118) ?hd (xs := ([[wrap64 (7 * s)]] : List (List Int))) (inner := [.slice A1 [wrap64 (7 * s)].length c1]) (ok := fun _ => True) (okp := fun _ => True) ?hr ?hp (fun _ hk => hk) trivial (B1.out) (B1.out.size) (by simp) ?_; (case hd => rfl); (case hg => rfl); (case hr => first | (go_simp; done) | (go_simp; rfl)); (case hp => exact (Reps.one (show Kd.M dL _ _ _ [wrap64 (7 * s)] [.slice A1 [wrap64 (7 * s)].length c1] from ⟨_, rfl, R1.out⟩) (Reps.none _ _))); intro v2 w2 ho_ hb_ hg_ hnew_; clear hg_ hnew_; obtain ⟨A2, c2, rfl⟩ := Kd.R_slice ho_; have R2 := Aside0.mk ho_; clear ho_; clear R1 B1; have B2 := Aside0.mk hb_; clear hb_; have kx2 : w2.cell? ⟨w.heap.size + 1, 1, none⟩ = some (.slice Ax st.cs.length cx) := (blk_cell (blk_below HM.out.bx B2.out) 1).trans rfl) | ((with_reducible refine gate_dst (N := 119) rfl ?_); refine Kd.R_lit dN w2.heap.size 3 ?hg (N := 119) ?hd (xs := ([7] : List Int)) (inner := [.int .i64 7]) (ok := fun _ => True) (okp := fun _ => True) ?hr ?hp (fun _ hk => hk) trivial (Below.refl _ _) (Nat.le_refl _) (by simp) ?_; (case hd => rfl); (case hg => rfl); (case hr => first | (go_simp; done) | (go_simp; rfl)); (case hp => exact (Reps.one (show Kd.M dN _ _ _ 7 [.int .i64 7] from rfl) (Reps.none _ _))); intro v3 w3 ho_ hb_ hg_ hnew_; clear hg_ hnew_; obtain ⟨A3, c3, rfl⟩ := Kd.R_slice ho_; have R3 := Aside0.mk ho_; clear ho_; have B3 := Aside0.mk hb_; clear hb_) | ((with_reducible refine gate_dst (N := 120) rfl ?_); refine Kd.R_lit dL w2.heap.size 34 ?hg (N := 120) ?hd (xs := ([[7]] : List (List Int))) (inner := [.slice A3 [(7 : Int)].length c3]) (ok := fun _ => True) (okp := fun _ => True) ?hr ?hp (fun _ hk => hk) trivial (B3.out) (B3.out.size) (by simp) ?_; (case hd => rfl); (case hg => rfl); (case hr => first | (go_simp; done) | (go_simp; rfl)); (case hp => exact (Reps.one (show Kd.M dL _ _ _ [7] [.slice A3 [(7 : Int)].length c3] from ⟨_, rfl, R3.out⟩) (Reps.none _ _))); intro v4 w4 ho_ hb_ hg_ hnew_; clear hg_ hnew_; obtain ⟨A4, c4, rfl⟩ := Kd.R_slice ho_; have R4 := Aside0.mk ho_; clear ho_; clear R3 B3; have B4 := Aside0.mk hb_; clear hb_) | ((with_reducible refine gate_dst (N := 121) rfl ?_); refine Kd.R_lit dN w4.heap.size 3 ?hg (N := 121) ?hd (xs := ([0] : List Int)) (inner := [.int .i64 0]) (ok := fun _ => True) (okp := fun _ => True) ?hr ?hp (fun _ hk => hk) trivial (Below.refl _ _) (Nat.le_refl _) (by simp) ?_; (case hd => rfl); (case hg => rfl); (case hr => first | (go_simp; done) | (go_simp; rfl)); (case hp => exact (Reps.one (show Kd.M dN _ _ _ 0 [.int .i64 0] from rfl) (Reps.none _ _))); intro v5 w5 ho_ hb_ hg_ hnew_; clear hg_ hnew_; obtain ⟨A5, c5, rfl⟩ := Kd.R_slice ho_; have R5 := Aside0.mk ho_; clear ho_; have B5 := Aside0.mk hb_; clear hb_ kx2; have kx5 : w5.cell? ⟨w.heap.size + 1, 1, none⟩ = some (.slice Ax st.cs.length cx) := (blk_cell (blk_below (blk_below (blk_below HM.out.bx B2.out) B4.out) B5.out) 1).trans rfl; have kz5 : w5.frozen? ⟨w.heap.size + 1, 1, none⟩ = false := blk_frozen (blk_below (blk_below (blk_below HM.out.bx B2.out) B4.out) B5.out) 1))
             go_meet
             case rel =>
               have e7 : wrap64 (7 * s) = 7 * s := w64' _ (by have := HB0.out; omega) (by have := HB0.out; omega)
               have m5 := below_then (below_then (below_then HM.out.hb HM.out.hb.size B2.out) (below_then HM.out.hb HM.out.hb.size B2.out).size B4.out) (below_then (below_then HM.out.hb HM.out.hb.size B2.out) (below_then HM.out.hb HM.out.hb.size B2.out).size B4.out).size B5.out
               have z2 := B2.out.size
               have z4 := B4.out.size
               have z5 := B5.out.size
               refine ⟨.slice A2 1 c2, fun k => wr.heap.size ≤ k ∧ k < w2.heap.size, fun k => w4.heap.size ≤ k ∧ k < w5.heap.size, fun k => w2.heap.size ≤ k ∧ k < w4.heap.size, ⟨HE.out.1, HE.out.2.2.1⟩, ⟨?_⟩⟩
               rw [← HE.out.2.1, ← HE.out.2.2.2.1, ← HE.out.2.2.2.2, ← e7]
               refine MI.setb (vb := .slice Ax st.cs.length cx) ⟨?_, ?_, ?_, blk_below (blk_below (blk_below HM.out.bm B2.out) B4.out) B5.out, blk_below (blk_below (blk_below HM.out.bx B2.out) B4.out) B5.out, m5, fun k hk => by omega, fun k => ⟨fun h1 => ⟨fun h2 => by omega, fun h3 => by omega⟩, fun h2 h3 => by omega⟩⟩ _
               · exact S_one (Kd.R_lower (Kd.R_below (Kd.R_below (Kd.R_mono (Kd.R_bound R2.out) (fun k hk => ⟨hk.2.1, hk.2.2.1⟩)) B4.out) B5.out) HM.out.hb.size)
               · exact Kd.R_lower (Kd.R_mono (Kd.R_bound R5.out) (fun k hk => ⟨hk.2.1, hk.2.2.1⟩)) (by have := HM.out.hb.size; omega)
               · exact S_one (Kd.R_lower (Kd.R_below (Kd.R_mono (Kd.R_bound R4.out) (fun k hk => ⟨hk.2.1, hk.2.2.1⟩)) B5.out) (by have := HM.out.hb.size; omega))
           · have heb : (((st.cs.length : Nat) : Int) == 0) = false := by
               cases hcs : st.cs with
               | nil => exact absurd hcs he
               | cons y ys => rw [beq_eq_false_iff_ne]; simp only [List.length_cons]; omega
             have hr := HFF.out
             unfold mdEnd at hr
             rw [if_neg he] at hr
             simp only [Prod.mk.injEq] at hr
             obtain ⟨e1, e2, e3, e4, e5⟩ := hr
             have HE := Aside0.mk (And.intro e1 (And.intro e2 (And.intro e3 (And.intro e4 e5))))
             clear e1 e2 e3 e4 e5
             go_wp2
             go_meet
             case rel => exact ⟨_, P1, P2, P3, ⟨HE.out.1, HE.out.2.2.1⟩, by rw [← HE.out.2.1, ← HE.out.2.2.2.1, ← HE.out.2.2.2.2]; exact HM⟩
         case rest =>
           obtain ⟨vx', P1', P2', P3', HE, HM'⟩ := hcut
           obtain ⟨A6, c6, rfl⟩ := Kd.S_slice HM'.out.hs
           obtain ⟨A7, c7, rfl⟩ := Kd.S_slice HM'.out.hr
           obtain ⟨A8, c8, rfl⟩ := Kd.R_slice HM'.out.ho
           have k0 : wc.cell? ⟨w.heap.size + 1, 0, none⟩ = some (.int .i64 off) := (blk_cell HM'.out.bx 0).trans rfl
           have k1 : wc.cell? ⟨w.heap.size + 1, 1, none⟩ = some (.slice A6 r2.length c6) := (blk_cell HM'.out.bx 1).trans rfl
           have z0 : wc.frozen? ⟨w.heap.size + 1, 0, none⟩ = false := blk_frozen HM'.out.bx 0
           have z1 : wc.frozen? ⟨w.heap.size + 1, 1, none⟩ = false := blk_frozen HM'.out.bx 1
           go_wp2
           have HMz := Aside0.mk (MI.setb (MI.set0 HM'.out) (.slice A6 r2.length c6))
           generalize (wc.setCell ⟨w.heap.size + 1, 0, none⟩ (.int .i64 off)).setCell ⟨w.heap.size + 1, 1, none⟩ (.slice A6 r2.length c6) = wz at HMz ⊢
           refine bodyPost_ret (results_list (rs := [.cell 2 24, .tmp 3, .tmp 4, .tmp 5]) (vs := [.agg #[.int .i64 off, .slice A6 r2.length c6], .int .i64 s, .slice A8 r4.length c8, .slice A7 r5.length c7]) rfl (by simp) (.cell (w.heap.size + 1) 24 #[.int .i64 off, .slice A6 r2.length c6] (0, 0) _ rfl HMz.out.bx Try.underlying24 rfl (by kernel_rfl) (.tmp (.tmp (.tmp .nil))))) rfl ?_
           refine ⟨_, _, _, by rw [HE.out.1, HE.out.2], Kd.S_mono HMz.out.hs (fun k hk => ⟨fun he => ?_, fun he => ?_⟩), Kd.R_mono HMz.out.ho (fun k hk => ⟨fun he => ?_, fun he => ?_⟩), Kd.S_mono HMz.out.hr (fun k hk => ⟨fun he => ?_, fun he => ?_⟩), HMz.out.hb⟩
           · exact ((HMz.out.dis k).1 hk).1 (HMz.out.ho.1 k he.symm)
           · exact ((HMz.out.dis k).1 hk).2 ((Kd.S_R HMz.out.hr).1 k he.symm)
           · exact ((HMz.out.dis k).1 ((Kd.S_R HMz.out.hs).1 k he.symm)).1 hk
           · exact (HMz.out.dis k).2 hk ((Kd.S_R HMz.out.hr).1 k he.symm)
           · exact ((HMz.out.dis k).1 ((Kd.S_R HMz.out.hs).1 k he.symm)).2 hk
           · exact (HMz.out.dis k).2 (HMz.out.ho.1 k he.symm) hk
       ·
         have kx : wr.cell? ⟨w.heap.size + 1, 1, none⟩ = some (.slice Ax st.cs.length cx) := (blk_cell HM.out.bx 1).trans rfl
         go_upto_if 114 with fail
         go_cut [4, 5] (fun v4' v5' wc => ∃ (vx' : Value) (P1 P2 P3 : Nat → Prop), Aside0 (off = r1 ∧ s = r3) ∧ Aside0 (MI w wc #[.int .u8 a0_0, .int .u8 a0_1, .int .u8 a0_2, .int .u8 a0_3, .int .u8 a0_4, .slice A0_5 l0_5.length c0_5] off P1 P2 P3 vx' vx' v4' v5' ⟨r2, r4, r5⟩))
         case first =>
           by_cases he : st.cs = []
           · have heb : (((st.cs.length : Nat) : Int) == 0) = true := by rw [he]; rfl
             have hr := HFF.out
             unfold mdEnd at hr
             rw [if_pos he] at hr
             simp only [Prod.mk.injEq] at hr
             obtain ⟨e1, e2, e3, e4, e5⟩ := hr
             have HE := Aside0.mk (And.intro e1 (And.intro e2 (And.intro e3 (And.intro e4 e5))))
             clear e1 e2 e3 e4 e5 he
             go_wp2_with (first | ((with_reducible refine gate_dst (N := 117) rfl ?_); refine Kd.R_lit dN wr.heap.size 3 ?hg (N := 117) ?hd (xs := ([wrap64 (7 * s)] : List Int)) (inner := [.int .i64 (wrap64 (7 * s))]) (ok := fun _ => True) (okp := fun _ => True) ?hr ?hp (fun _ hk => hk) trivial (Below.refl _ _) (Nat.le_refl _) (by simp) ?_; (case hd => rfl); (case hg => rfl); (case hr => first | (go_simp; done) | (go_simp; rfl)); (case hp => exact (Reps.one (show Kd.M dN _ _ _ (wrap64 (7 * s)) [.int .i64 (wrap64 (7 * s))] from rfl) (Reps.none _ _))); intro v1 w1 ho_ hb_ hg_ hnew_; clear hg_ hnew_; obtain ⟨A1, c1, rfl⟩ := Kd.R_slice ho_; have R1 := Aside0.mk ho_; clear ho_; have B1 := Aside0.mk hb_; clear hb_) | ((with_reducible refine gate_dst (N := 118) rfl ?_); refine Kd.R_lit dL wr.heap.size 34 ?hg (N := 118) ?hd (xs := ([[wrap64 (7 * s)]] : List (List Int))) (inner := [.slice A1 [wrap64 (7 * s)].length c1]) (ok := fun _ => True) (okp := fun _ => True) ?hr ?hp (fun _ hk => hk) trivial (B1.out) (B1.out.size) (by simp) ?_; (case hd => rfl); (case hg => rfl); (case hr => first | (go_simp; done) | (go_simp; rfl)); (case hp => exact (Reps.one (show Kd.M dL _ _ _ [wrap64 (7 * s)] [.slice A1 [wrap64 (7 * s)].length c1] from ⟨_, rfl, R1.out⟩) (Reps.none _ _))); intro v2 w2 ho_ hb_ hg_ hnew_; clear hg_ hnew_; obtain ⟨A2, c2, rfl⟩ := Kd.R_slice ho_; have R2 := Aside0.mk ho_; clear ho_; clear R1 B1; have B2 := Aside0.mk hb_; clear hb_; have kx2 : w2.cell? ⟨w.heap.size + 1, 1, none⟩ = some (.slice Ax st.cs.length cx) := (blk_cell (blk_below HM.out.bx B2.out) 1).trans rfl) | ((with_reducible refine gate_dst (N := 119) rfl ?_); refine Kd.R_lit dN w2.heap.size 3 ?hg (N := 119) ?hd (xs := ([7] : List Int)) (inner := [.int .i64 7]) (ok := fun _ => True) (okp := fun _ => True) ?hr ?hp (fun _ hk => hk) trivial (Below.refl _ _) (Nat.le_refl _) (by simp) ?_; (case hd => rfl); (case hg => rfl); (case hr => first | (go_simp; done) | (go_simp; rfl)); (case hp => exact (Reps.one (show Kd.M dN _ _ _ 7 [.int .i64 7] from rfl) (Reps.none _ _))); intro v3 w3 ho_ hb_ hg_ hnew_; clear hg_ hnew_; obtain ⟨A3, c3, rfl⟩ := Kd.R_slice ho_; have R3 := Aside0.mk ho_; clear ho_; have B3 := Aside0.mk hb_; clear hb_) | ((with_reducible refine gate_dst (N := 120) rfl ?_); refine Kd.R_lit dL w2.heap.size 34 ?hg (N := 120) ?hd (xs := ([[7]] : List (List Int))) (inner := [.slice A3 [(7 : Int)].length c3]) (ok := fun _ => True) (okp := fun _ => True) ?hr ?hp (fun _ hk => hk) trivial (B3.out) (B3.out.size) (by simp) ?_; (case hd => rfl); (case hg => rfl); (case hr => first | (go_simp; done) | (go_simp; rfl)); (case hp => exact (Reps.one (show Kd.M dL _ _ _ [7] [.slice A3 [(7 : Int)].length c3] from ⟨_, rfl, R3.out⟩) (Reps.none _ _))); intro v4 w4 ho_ hb_ hg_ hnew_; clear hg_ hnew_; obtain ⟨A4, c4, rfl⟩ := Kd.R_slice ho_; have R4 := Aside0.mk ho_; clear ho_; clear R3 B3; have B4 := Aside0.mk hb_; clear hb_) | ((with_reducible refine gate_dst (N := 121) rfl ?_); refine Kd.R_lit dN w4.heap.size 3 ?hg (N := 121) ?hd (xs := ([0] : List Int)) (inner := [.int .i64 0]) (ok := fun _ => True) (okp := fun _ => True) ?hr ?hp (fun _ hk => hk) trivial (Below.refl _ _) (Nat.le_refl _) (by simp) ?_; (case hd => rfl); (case hg => rfl); (case hr => first | (go_simp; done) | (go_simp; rfl)); (case hp => exact (Reps.one (show Kd.M dN _ _ _ 0 [.int .i64 0] from rfl) (Reps.none _ _))); intro v5 w5 ho_ hb_ hg_ hnew_; clear hg_ hnew_; obtain ⟨A5, c5, rfl⟩ := Kd.R_slice ho_; have R5 := Aside0.mk ho_; clear ho_; have B5 := Aside0.mk hb_; clear hb_ kx2; have kx5 : w5.cell? ⟨w.heap.size + 1, 1, none⟩ = some (.slice Ax st.cs.length cx) := (blk_cell (blk_below (blk_below (blk_below HM.out.bx B2.out) B4.out) B5.out) 1).trans rfl; have kz5 : w5.frozen? ⟨w.heap.size + 1, 1, none⟩ = false := blk_frozen (blk_below (blk_below (blk_below HM.out.bx B2.out) B4.out) B5.out) 1))
             go_meet
             case rel =>
               have e7 : wrap64 (7 * s) = 7 * s := w64' _ (by have := HB0.out; omega) (by have := HB0.out; omega)
               have m5 := below_then (below_then (below_then HM.out.hb HM.out.hb.size B2.out) (below_then HM.out.hb HM.out.hb.size B2.out).size B4.out) (below_then (below_then HM.out.hb HM.out.hb.size B2.out) (below_then HM.out.hb HM.out.hb.size B2.out).size B4.out).size B5.out
               have z2 := B2.out.size
               have z4 := B4.out.size
               have z5 := B5.out.size
               refine ⟨.slice A2 1 c2, fun k => wr.heap.size ≤ k ∧ k < w2.heap.size, fun k => w4.heap.size ≤ k ∧ k < w5.heap.size, fun k => w2.heap.size ≤ k ∧ k < w4.heap.size, ⟨HE.out.1, HE.out.2.2.1⟩, ⟨?_⟩⟩
               rw [← HE.out.2.1, ← HE.out.2.2.2.1, ← HE.out.2.2.2.2, ← e7]
               refine MI.setb (vb := .slice Ax st.cs.length cx) ⟨?_, ?_, ?_, blk_below (blk_below (blk_below HM.out.bm B2.out) B4.out) B5.out, blk_below (blk_below (blk_below HM.out.bx B2.out) B4.out) B5.out, m5, fun k hk => by omega, fun k => ⟨fun h1 => ⟨fun h2 => by omega, fun h3 => by omega⟩, fun h2 h3 => by omega⟩⟩ _
               · exact S_one (Kd.R_lower (Kd.R_below (Kd.R_below (Kd.R_mono (Kd.R_bound R2.out) (fun k hk => ⟨hk.2.1, hk.2.2.1⟩)) B4.out) B5.out) HM.out.hb.size)
               · exact Kd.R_lower (Kd.R_mono (Kd.R_bound R5.out) (fun k hk => ⟨hk.2.1, hk.2.2.1⟩)) (by have := HM.out.hb.size; omega)
               · exact S_one (Kd.R_lower (Kd.R_below (Kd.R_mono (Kd.R_bound R4.out) (fun k hk => ⟨hk.2.1, hk.2.2.1⟩)) B5.out) (by have := HM.out.hb.size; omega))
           · have heb : (((st.cs.length : Nat) : Int) == 0) = false := by
               cases hcs : st.cs with
               | nil => exact absurd hcs he
               | cons y ys => rw [beq_eq_false_iff_ne]; simp only [List.length_cons]; omega
             have hr := HFF.out
             unfold mdEnd at hr
             rw [if_neg he] at hr
             simp only [Prod.mk.injEq] at hr
             obtain ⟨e1, e2, e3, e4, e5⟩ := hr
             have HE := Aside0.mk (And.intro e1 (And.intro e2 (And.intro e3 (And.intro e4 e5))))
             clear e1 e2 e3 e4 e5
             go_wp2
             go_meet
             case rel => exact ⟨_, P1, P2, P3, ⟨HE.out.1, HE.out.2.2.1⟩, by rw [← HE.out.2.1, ← HE.out.2.2.2.1, ← HE.out.2.2.2.2]; exact HM⟩
         case rest =>
           obtain ⟨vx', P1', P2', P3', HE, HM'⟩ := hcut
           obtain ⟨A6, c6, rfl⟩ := Kd.S_slice HM'.out.hs
           obtain ⟨A7, c7, rfl⟩ := Kd.S_slice HM'.out.hr
           obtain ⟨A8, c8, rfl⟩ := Kd.R_slice HM'.out.ho
           have k0 : wc.cell? ⟨w.heap.size + 1, 0, none⟩ = some (.int .i64 off) := (blk_cell HM'.out.bx 0).trans rfl
           have k1 : wc.cell? ⟨w.heap.size + 1, 1, none⟩ = some (.slice A6 r2.length c6) := (blk_cell HM'.out.bx 1).trans rfl
           have z0 : wc.frozen? ⟨w.heap.size + 1, 0, none⟩ = false := blk_frozen HM'.out.bx 0
           have z1 : wc.frozen? ⟨w.heap.size + 1, 1, none⟩ = false := blk_frozen HM'.out.bx 1
           go_wp2
           have HMz := Aside0.mk (MI.setb (MI.set0 HM'.out) (.slice A6 r2.length c6))
           generalize (wc.setCell ⟨w.heap.size + 1, 0, none⟩ (.int .i64 off)).setCell ⟨w.heap.size + 1, 1, none⟩ (.slice A6 r2.length c6) = wz at HMz ⊢
           refine bodyPost_ret (results_list (rs := [.cell 2 24, .tmp 3, .tmp 4, .tmp 5]) (vs := [.agg #[.int .i64 off, .slice A6 r2.length c6], .int .i64 s, .slice A8 r4.length c8, .slice A7 r5.length c7]) rfl (by simp) (.cell (w.heap.size + 1) 24 #[.int .i64 off, .slice A6 r2.length c6] (0, 0) _ rfl HMz.out.bx Try.underlying24 rfl (by kernel_rfl) (.tmp (.tmp (.tmp .nil))))) rfl ?_
           refine ⟨_, _, _, by rw [HE.out.1, HE.out.2], Kd.S_mono HMz.out.hs (fun k hk => ⟨fun he => ?_, fun he => ?_⟩), Kd.R_mono HMz.out.ho (fun k hk => ⟨fun he => ?_, fun he => ?_⟩), Kd.S_mono HMz.out.hr (fun k hk => ⟨fun he => ?_, fun he => ?_⟩), HMz.out.hb⟩
           · exact ((HMz.out.dis k).1 hk).1 (HMz.out.ho.1 k he.symm)
           · exact ((HMz.out.dis k).1 hk).2 ((Kd.S_R HMz.out.hr).1 k he.symm)
           · exact ((HMz.out.dis k).1 ((Kd.S_R HMz.out.hs).1 k he.symm)).1 hk
           · exact (HMz.out.dis k).2 hk ((Kd.S_R HMz.out.hr).1 k he.symm)
           · exact ((HMz.out.dis k).1 ((Kd.S_R HMz.out.hs).1 k he.symm)).2 hk
           · exact (HMz.out.dis k).2 (HMz.out.ho.1 k he.symm) hk
 · cases h

end Go.Proofs.Ytnbcdbkhpdpjgaa.H
