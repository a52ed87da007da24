/- Texts PW, PX, MX, MY, MZ, PY, MW, MU of this chapter, one behind the other. -/
import Derived.BigQuiet
import Derived.Carry
import Derived.LoopIn
import Derived.LoopNIn
import Derived.OwnWalkIn
import Derived.StillTailTactics
import Derived.TacticsInMore
import Derived.Test.YthddeillkdediaaQA4
import Derived.Test.YthddeillkdediaaQA5
import Derived.Test.YthddeillkdediaaXH
import Derived.Test.YthddeillkdediaaXI

/- Plain facts for the statements without the reference: samples, choices by bits, fractions. -/
namespace Go.Proofs.Ythddeillkdediaa.H
open Go.RowKit Go.Proofs.YthddeillkdediaaW.PrintWords Go.Proofs.YthddeillkdediaaW.PrintLast Go.Proofs.YthddeillkdediaaW.PrintMore
open Go.Shelf Go.Proofs.Ythddeillkdediaa.QA
set_option linter.unusedVariables false
set_option linter.unusedSimpArgs false


theorem tmod_nat (x y : Nat) : Int.tmod (x : Int) (y : Int) = ((x % y : Nat) : Int) := rfl
/-- What a sample of a statement is like. -/
def SmpOK (r : List Int) : Prop := 1 ≤ r.length ∧ r.length ≤ 5 ∧ ∀ x ∈ r, -3 ≤ x ∧ x ≤ 63
theorem sampled_l (l : List Int) (hl : ∀ x ∈ l, 0 ≤ x ∧ x ≤ 255) (wd : Nat) (hw : wd ≤ 255) : ∀ (m k i : Nat) (out : List Int), 5 - i = m → i = out.length → i ≤ 5 → (∀ x ∈ out, -3 ≤ x ∧ x ≤ 63) → m + 2 ≤ k → ∃ r, pianolalaw10_sampled.l0 k l (wd : Int) out (i : Int) = some r ∧ SmpOK r := by
 have hend : ∀ out : List Int, out.length ≤ 5 → (∀ x ∈ out, -3 ≤ x ∧ x ≤ 63) → ∃ r, (if (out.length : Int) = 0 then (if out.length < 17592186044416 then some (out ++ [1]) else none) else some out) = some r ∧ SmpOK r := fun out h1 h2 => by
  by_cases c : (out.length : Int) = 0
  · rw [if_pos c, if_pos (by omega)]
    have : out = [] := List.length_eq_zero_iff.1 (by omega)
    subst this
    exact ⟨_, rfl, by simp, by simp, by simp⟩
  · rw [if_neg c]
    exact ⟨_, rfl, by omega, h1, h2⟩
 intro m
 induction m with
 | zero =>
  intro k i out h1 h2 h3 h4 h5
  obtain ⟨k, rfl⟩ : ∃ k', k = k' + 1 := ⟨k - 1, by omega⟩
  unfold pianolalaw10_sampled.l0
  by_cases c : (i : Int) < (l.length : Int)
  · rw [if_pos c, if_neg (by omega)]
    exact hend out (by omega) h4
  · rw [if_neg c]
    exact hend out (by omega) h4
 | succ m ih =>
  intro k i out h1 h2 h3 h4 h5
  obtain ⟨k, rfl⟩ : ∃ k', k = k' + 1 := ⟨k - 1, by omega⟩
  unfold pianolalaw10_sampled.l0
  by_cases c : (i : Int) < (l.length : Int)
  · have hwm : wrap64 (2 + Int.tmod (wd : Int) 64) = ((2 + wd % 64 : Nat) : Int) := by
     rw [show (64 : Int) = ((64 : Nat) : Int) from rfl, tmod_nat, w64' _ (by omega) (by omega)]; push_cast; rfl
    have hx := hl _ (rd_mem l (show i < l.length by omega))
    obtain ⟨v, hv⟩ : ∃ v : Nat, rd l (i : Int) = (v : Int) := ⟨(rd l (i : Int)).toNat, by omega⟩
    rw [hv] at hx
    have hmod : v % (2 + wd % 64) < 2 + wd % 64 := Nat.mod_lt _ (by omega)
    rw [if_pos c, if_pos (by omega), if_pos (by omega), hwm, if_neg (by omega), if_pos (by omega), hv, w64' (v : Int) (by omega) (by omega), tmod_nat, w64' (((v % (2 + wd % 64) : Nat) : Int) - 3) (by omega) (by omega), wrap_up i (by omega)]
    exact ih k (i + 1) _ (by omega) (by simp [h2]) (by omega) (fun x hx => by
     rcases List.mem_append.1 hx with h | h
     · exact h4 x h
     · rw [List.mem_singleton.1 h]; omega) (by omega)
  · rw [if_neg c]
    exact hend out (by omega) h4
theorem sampled_f (l : List Int) (hl : ∀ x ∈ l, 0 ≤ x ∧ x ≤ 255) (wd : Int) (hw : 0 ≤ wd ∧ wd ≤ 255) (k : Nat) (hk : 10 ≤ k) : ∃ r, pianolalaw10_sampled.f k l wd = some r ∧ SmpOK r := by
 obtain ⟨n, rfl⟩ : ∃ n : Nat, wd = (n : Int) := ⟨wd.toNat, by omega⟩
 unfold pianolalaw10_sampled.f
 exact sampled_l l hl n (by omega) 5 k 0 [] rfl rfl (by omega) (by simp) (by omega)
theorem made_f (l m : List Int) (hl : ∀ x ∈ l, 0 ≤ x ∧ x ≤ 255) (hm : ∀ x ∈ m, 0 ≤ x ∧ x ≤ 255) (wd : Int) (hw : 0 ≤ wd ∧ wd ≤ 255) (k : Nat) (hk : 10 ≤ k) : ∃ a b, pianolalaw10_Touch_made.f k l m wd = some (a, b) ∧ SmpOK a ∧ SmpOK b := by
 unfold pianolalaw10_Touch_made.f
 rw [w64' wd (by omega) (by omega)]
 obtain ⟨a, ha, h1⟩ := sampled_f l hl wd hw k hk
 obtain ⟨b, hb, h2⟩ := sampled_f m hm wd hw k hk
 rw [ha, hb]
 exact ⟨a, b, rfl, h1, h2⟩
theorem SmpOK.chk {r : List Int} (h : SmpOK r) : chk r = 0 := by
 unfold H.chk
 rw [if_neg (by have := h.1; omega), if_neg (by have := h.2.1; omega), if_neg]
 rw [List.any_eq_true]
 rintro ⟨x, hx, hg⟩
 have := h.2.2 x hx
 unfold goodB isIn at hg
 simp at hg
 omega
/-- The law's own beats. -/
theorem lb_l1 (a b : List Int) (ha : a.length ≤ 1000) (hb : b.length ≤ 1000) (S : Int) (hS : 0 ≤ S ∧ S ≤ 2000000) (i : Nat) (hi : i < a.length) : ∀ (m k j : Nat), b.length - j = m → j ≤ b.length →
  pianolalaw10_beats.l1 (k + (m + 1)) b (S + rowS (b.take j) (rd a (i : Int))) (rd a (i : Int)) a (a.length : Int) (i : Int) b (b.length : Int) (j : Int) = pianolalaw10_beats.l0 k b (S + rowS b (rd a (i : Int))) a (a.length : Int) ((i + 1 : Nat) : Int) := by
 intro m
 induction m with
 | zero =>
  intro k j h1 h2
  obtain rfl : j = b.length := by omega
  rw [show k + (0 + 1) = k + 1 by omega]
  unfold pianolalaw10_beats.l1
  rw [if_neg (by omega), List.take_length, wrap_up i (by omega)]
 | succ m ih =>
  intro k j h1 h2
  have hlt : j < b.length := by omega
  rw [show k + (m + 1 + 1) = (k + (m + 1)) + 1 by omega]
  unfold pianolalaw10_beats.l1
  have hi2 := ih k (j + 1) (by omega) (by omega)
  rw [rowS_take b _ hlt] at hi2
  rw [if_pos (by omega), if_pos (by omega), if_pos (by omega), wrap_up j (by omega)]
  have hbb := rowS_in (b.take j) (rd a (i : Int))
  rw [List.length_take] at hbb
  by_cases h3 : rd a (i : Int) < rd b (j : Int)
  · rw [if_pos h3, w64' _ (by omega) (by omega), ← hi2, show scoreI (rd a (i : Int)) (rd b (j : Int)) = 2 by unfold scoreI; rw [if_pos h3], Int.add_assoc]
  · rw [if_neg h3]
    by_cases h4 : rd a (i : Int) = rd b (j : Int)
    · rw [if_pos h4, w64' _ (by omega) (by omega), ← hi2, show scoreI (rd a (i : Int)) (rd b (j : Int)) = 1 by unfold scoreI; rw [if_neg h3, if_pos h4], Int.add_assoc]
    · rw [if_neg h4, ← hi2, show scoreI (rd a (i : Int)) (rd b (j : Int)) = 0 by unfold scoreI; rw [if_neg h3, if_neg h4], Int.add_zero]
theorem lb_l0 (a b : List Int) (ha : a.length ≤ 1000) (hb : b.length ≤ 1000) : ∀ (m k i : Nat), a.length - i = m → i ≤ a.length → m * (b.length + 2) + 1 ≤ k → pianolalaw10_beats.l0 k b (sumI ((a.take i).map (rowS b))) a (a.length : Int) (i : Int) = some (beatsI a b) := by
 intro m
 induction m with
 | zero =>
  intro k i h1 h2 h3
  obtain rfl : i = a.length := by omega
  obtain ⟨k, rfl⟩ : ∃ k', k = k' + 1 := ⟨k - 1, by omega⟩
  unfold pianolalaw10_beats.l0
  rw [if_neg (by omega), List.take_length]
  rfl
 | succ m ih =>
  intro k i h1 h2 h3
  rw [Nat.succ_mul] at h3
  have hlt : i < a.length := by omega
  obtain ⟨k, rfl⟩ : ∃ k', k = (k' + (b.length + 1)) + 1 := ⟨k - (b.length + 2), by omega⟩
  unfold pianolalaw10_beats.l0
  rw [if_pos (by omega), if_pos (by omega), if_pos (by omega)]
  have hS := rows_in (a.take i) b (by rw [List.length_take]; omega) hb
  have := lb_l1 a b ha hb _ hS i hlt b.length k 0 (by omega) (Nat.zero_le _)
  rw [List.take_zero, show rowS [] (rd a (i : Int)) = 0 from rfl, Int.add_zero] at this
  refine this.trans ?_
  have h6 := ih k (i + 1) (by omega) (by omega) (by omega)
  rw [take_rd a hlt, sum_snoc] at h6
  exact h6
theorem lbeats_f (a b : List Int) (k : Nat) (ha : a.length ≤ 40) (hb : b.length ≤ 40) (hk : 2000 ≤ k) : pianolalaw10_beats.f k a b = some (beatsI a b) := by
 unfold pianolalaw10_beats.f
 refine lb_l0 a b (by omega) (by omega) a.length k 0 (by omega) (Nat.zero_le _) ?_
 have : a.length * (b.length + 2) ≤ 40 * 42 := Nat.mul_le_mul ha (by omega)
 omega
end Go.Proofs.Ythddeillkdediaa.H

/- Plain law: chances of choices, and levels. -/
namespace Go.Proofs.Ythddeillkdediaa.H
open Go.RowKit Go.Proofs.YthddeillkdediaaW.PrintWords Go.Proofs.YthddeillkdediaaW.PrintLast Go.Proofs.YthddeillkdediaaW.PrintMore
open Go.Shelf Go.Proofs.Ythddeillkdediaa.QA
set_option linter.unusedVariables false
set_option linter.unusedSimpArgs false


theorem SmpOK.take {a : List Int} (h : SmpOK a) (n : Nat) (hn : 1 ≤ n) : SmpOK (a.take n) := ⟨by rw [List.length_take]; have := h.1; omega, by rw [List.length_take]; have := h.2.1; omega, fun x hx => h.2.2 x (List.mem_of_mem_take hx)⟩

end Go.Proofs.Ythddeillkdediaa.H

/- Two pairs of own rows, kept in two boxes. -/
namespace Go.Proofs.Ythddeillkdediaa.H
open Go.RowKit Go.Proofs.YthddeillkdediaaW.PrintWords Go.Proofs.YthddeillkdediaaW.PrintLast Go.Proofs.YthddeillkdediaaW.PrintMore
open Go.Shelf Go.Proofs.Ythddeillkdediaa.QA
set_option linter.unusedVariables false
set_option linter.unusedSimpArgs false


/-- Two pairs of own rows, kept in two boxes. -/
structure X4 (w : World) (B g12 g13 : Nat) (m0 m1 n0 n1 : Value) (M0 M1 N0 N1 : List Int) : Prop where
 c12 : w.heap[g12]? = some (.cells #[m0, m1] 63 (0, 0))
 c13 : w.heap[g13]? = some (.cells #[n0, n1] 63 (0, 0))
 o0 : OwnI w B m0 M0
 o1 : OwnI w B m1 M1
 o2 : OwnI w B n0 N0
 o3 : OwnI w B n1 N1
 d01 : ∀ k, m0.ownBlock = some k → m1.ownBlock ≠ some k
 d02 : ∀ k, m0.ownBlock = some k → n0.ownBlock ≠ some k
 d03 : ∀ k, m0.ownBlock = some k → n1.ownBlock ≠ some k
 d12 : ∀ k, m1.ownBlock = some k → n0.ownBlock ≠ some k
 d13 : ∀ k, m1.ownBlock = some k → n1.ownBlock ≠ some k
 d23 : ∀ k, n0.ownBlock = some k → n1.ownBlock ≠ some k
 lt : g12 < B ∧ g13 < B ∧ g12 ≠ g13
variable {w w' : World} {B g12 g13 : Nat} {m0 m1 n0 n1 : Value} {M0 M1 N0 N1 : List Int}
theorem OwnI.set {v u : Value} {xs : List Int} {g j : Nat} (h : OwnI w B v xs) (hg : g < B) : OwnI (w.setCell ⟨g, j, none⟩ u) B v xs := own_keptI h fun k cur e hk => blk_far hk (show k ≠ g by have := (h.lt k e).1; omega) u
theorem X4.below (h : X4 w B g12 g13 m0 m1 n0 n1 M0 M1 N0 N1) (hb : Below w.heap.size w w') : X4 w' B g12 g13 m0 m1 n0 n1 M0 M1 N0 N1 :=
 ⟨blk_below2 hb h.c12, blk_below2 hb h.c13, h.o0.below hb, h.o1.below hb, h.o2.below hb, h.o3.below hb, h.d01, h.d02, h.d03, h.d12, h.d13, h.d23, h.lt⟩
end Go.Proofs.Ythddeillkdediaa.H

/- Three rows grown in a drawn region. -/
namespace Go.Proofs.Ythddeillkdediaa.H
open Go.RowKit Go.Proofs.YthddeillkdediaaW.PrintWords Go.Proofs.YthddeillkdediaaW.PrintLast Go.Proofs.YthddeillkdediaaW.PrintMore
open Go.Shelf Go.Proofs.Ythddeillkdediaa.QA
set_option linter.unusedVariables false
set_option linter.unusedSimpArgs false

def tr16_T : Bool × List (List Nat × List Nat) := (true, [([], []), ([], []), ([], []), ([], []), ([3], [3]), ([4], [4]), ([], []), ([6], [6]), ([5, 7], [5, 7]), ([], []), ([9], [9]), ([10], [10]), ([], []), ([12], [12]), ([13], [13]), ([11, 14, 8], [11, 14]), ([], []), ([16], [16]), ([17], [17]), ([], []), ([19], [19]), ([20], [20]), ([18, 21, 15], [18, 21]), ([0, 0, 3, 4, 5, 6, 7, 8], [0]), ([23, 8, 22, 0, 3, 4, 5, 6, 7, 8], [8, 23]), ([1, 0, 1, 3, 4, 5, 6, 7, 8, 9, 10, 11, 12, 13, 14, 15, 23, 24], [1]), ([25, 15, 24, 0, 1, 3, 4, 5, 6, 7, 8, 9, 10, 11, 12, 13, 14, 15, 23, 24], [15, 25]), ([2, 0, 1, 2, 3, 4, 5, 6, 7, 8, 9, 10, 11, 12, 13, 14, 15, 16, 17, 18, 19, 20, 21, 22, 23, 24, 25, 26], [2]), ([27, 22, 26, 0, 1, 2, 3, 4, 5, 6, 7, 8, 9, 10, 11, 12, 13, 14, 15, 16, 17, 18, 19, 20, 21, 22, 23, 24, 25, 26], [22, 27])])
def tr16_B : List Nat := [0, 0, 0, 0, 8, 24, 0, 64, 248, 0, 512, 1536, 0, 4096, 12288, 32760, 0, 65536, 196608, 0, 524288, 1572864, 4194296, 505, 16777209, 33554427, 67108859, 134217727, 268435455]
theorem tr16_tab : rtab .any (opsOf Try.f12 16) = tr16_T := by kernel_rfl
theorem tr16_bits : waitsOk tr16_T.2 tr16_B = true := by kernel_rfl

open Region in
theorem op_find {ops : Array Oper} {i : Nat} {x : Op × Option Tmp × Bool} (h : (ops[i]?.map fun o => (o.op, o.dst, o.guard.isNone)) = some x) : ∃ o, ops[i]? = some o ∧ o.op = x.1 ∧ o.dst = x.2.1 ∧ (x.2.2 = true → ∀ y, Region.wanted o y = true) := by
 obtain ⟨o, ho, rfl⟩ := Option.map_eq_some_iff.1 h
 refine ⟨o, ho, rfl, rfl, fun hg y => ?_⟩
 unfold Region.wanted
 have : o.guard = none := by simpa using hg
 rw [this]
theorem eput_same (a : Act) (d : Nat) (v : Value) (h : d < a.tmps.size) : (a.put (some d) v).eval (.tmp d) = v := by
 simp [Act.put, Act.eval, h]
theorem eput_ne (a : Act) (d j : Nat) (v : Value) (h : d ≠ j) : (a.put (some d) v).eval (.tmp j) = a.eval (.tmp j) := by
 simp [Act.put, Act.eval, h]
theorem size_put (a : Act) (N : Option Tmp) (v : Value) : (a.put N v).tmps.size = a.tmps.size := by cases N <;> simp [Act.put]
theorem step_build {ops : Array Oper} {o : Oper} {a : Act} {K : Act → World → Prop} {Q : Exit → Act → World → Prop} {W : World} (hw : Region.wanted o (yielded ops a.tmps) = true) {d : Tmp} (hop : o.op = .buildSlice 22 1 #[(0, .tmp d)]) (x : Int) (hx : a.eval (.tmp d) = .int .i64 x)
  (h : K (a.put o.dst (.slice (some ⟨W.heap.size, 0, none⟩) 1 1)) (W.alloc (.cells #[.int .i64 x] 3))) : if Region.wanted o (yielded ops a.tmps) = true then Oper.wp Try.prog o a W K Q else K (a.put o.dst undef) W := by
 refine event_step hw (w1 := W.alloc (.cells #[.int .i64 x] 3)) (v := .slice (some ⟨W.heap.size, 0, none⟩) 1 1) ?_ h
 have hu := und22
 unfold execOp
 simp [hop, hx]
 go_simp
 try rfl
theorem step_index {o : Oper} {a : Act} {g K0 : Nat} {w' : World} (hop : o.op = .indexAddr 63 (.tmp 12) (.tmp 88)) (h1 : a.eval (.tmp 12) = .pointer (some ⟨g, 0, none⟩)) (h2 : a.eval (.tmp 88) = .int .i64 K0) (hK : K0 < 2) : (execOp a.eval o).run Try.prog w' = .ok (.value (.pointer (some ⟨g, K0, none⟩))) w' := by
 have hu : Try.prog.underlying 63 = some (.array 2 22) := by kernel_rfl
 unfold execOp
 match K0, hK with
 | 0, _ =>
  simp [hop, h1, h2]
  go_simp
  try rfl
 | 1, _ =>
  simp [hop, h1, h2]
  go_simp
  try rfl
theorem add_blk0 (a : Addr) (j : Nat) : (a.add j).block = a.block := by
 unfold Addr.add
 split <;> rfl
section
variable {P : Program} {ops : Array Oper} {Q : Exit → Act → World → Prop} {md : Region.Mode} {S : World → Prop} {ds : List Nat}
/-- Three operations may come up next. -/
theorem three3_ {i j k : Nat} {Ni Nj Nk : Option Tmp} {oi oj ok : Oper} {fuel : Nat} {l : Array Bool} {a : Act} {w : World} (li lj lk : Array Bool) (hi : ops[i]? = some oi) (hj : ops[j]? = some oj) (hk : ops[k]? = some ok) (hNi : oi.dst = Ni) (hNj : oj.dst = Nj) (hNk : ok.dst = Nk)
    {T : Bool × List (List Nat × List Nat)} (hT : rtab md ops = T) (hc : (readyT T.2 l.toList == [i, j, k] && (l.toList.set i true == li.toList && (l.toList.set j true == lj.toList && l.toList.set k true == lk.toList))) = true) (hdi : i ∉ ds) (hdj : j ∉ ds) (hdk : k ∉ ds)
    (h1 : ∀ K : Act → World → Prop, Shut (∀ a' w', S w' → (S w' → wpAnyLast P md ops Q S ds fuel li a' w') → K a' w') → if Region.wanted oi (yielded ops a.tmps) = true then Oper.wp P oi a w K Q else K (a.put Ni undef) w)
    (h2 : ∀ K : Act → World → Prop, Shut (∀ a' w', S w' → (S w' → wpAnyLast P md ops Q S ds fuel lj a' w') → K a' w') → if Region.wanted oj (yielded ops a.tmps) = true then Oper.wp P oj a w K Q else K (a.put Nj undef) w)
    (h3 : ∀ K : Act → World → Prop, Shut (∀ a' w', S w' → (S w' → wpAnyLast P md ops Q S ds fuel lk a' w') → K a' w') → if Region.wanted ok (yielded ops a.tmps) = true then Oper.wp P ok a w K Q else K (a.put Nk undef) w) :
    wpAnyLast P md ops Q S ds (fuel + 1) l a w := by
  subst hNi
  subst hNj
  subst hNk
  simp only [Bool.and_eq_true] at hc
  obtain ⟨h4, h5, h6, h7⟩ := hc
  subst hT
  have e3 : Region.ready md ops l = [i, j, k] := by
    have := ready_eq (md := md) (ops := ops) (l := l)
    rw [this]
    exact beq_iff_eq.1 h4
  have e4 := beq_iff_eq.1 (set_of h5)
  have e5 := beq_iff_eq.1 (set_of h6)
  have e6 := beq_iff_eq.1 (set_of h7)
  subst e4
  subst e5
  subst e6
  exact wpAnyLast_ready e3 (by simp) (AllReadyL.cons hi hdi (fun K hK => h1 K hK) (AllReadyL.cons hj hdj (fun K hK => h2 K hK) (AllReadyL.cons hk hdk (fun K hK => h3 K hK) AllReadyL.nil)))
end
/-- What lies outside three own rows stays. -/
def Keep3 (W0 W : World) (u0 u1 u2 : Value) : Prop := ∀ k o, W0.heap[k]? = some o → u0.ownBlock ≠ some k → u1.ownBlock ≠ some k → u2.ownBlock ≠ some k → W.heap[k]? = some o
section
variable {W0 W W' : World} {u0 u1 u2 : Value}
theorem keep_below (h : Keep3 W0 W u0 u1 u2) (hb : Below W.heap.size W W') : Keep3 W0 W' u0 u1 u2 := fun k o hk n0 n1 n2 => blk_below2 hb (h k o hk n0 n1 n2)
theorem keep_grown0 (h : Keep3 W0 W u0 u1 u2) (hg : W.grownBy W' u0.ownBlock) : Keep3 W0 W' u0 u1 u2 := fun k o hk n0 n1 n2 => (hg.block k (blk_lt2 (h k o hk n0 n1 n2)) (fun e => n0 e.symm)).trans (h k o hk n0 n1 n2)
theorem keep_grown1 (h : Keep3 W0 W u0 u1 u2) (hg : W.grownBy W' u1.ownBlock) : Keep3 W0 W' u0 u1 u2 := fun k o hk n0 n1 n2 => (hg.block k (blk_lt2 (h k o hk n0 n1 n2)) (fun e => n1 e.symm)).trans (h k o hk n0 n1 n2)
theorem keep_grown2 (h : Keep3 W0 W u0 u1 u2) (hg : W.grownBy W' u2.ownBlock) : Keep3 W0 W' u0 u1 u2 := fun k o hk n0 n1 n2 => (hg.block k (blk_lt2 (h k o hk n0 n1 n2)) (fun e => n2 e.symm)).trans (h k o hk n0 n1 n2)
end
set_option maxRecDepth 100000 in
set_option maxHeartbeats 16000000 in
theorem chains3 {Q : Exit → Act → World → Prop} {S : World → Prop} {f : Nat} (A : Act) (W0 : World) (base : Nat) (u0 u1 u2 : Value) (r0 r1 r2 : List Int) (x0 x1 x2 : Int) (g12 K0 : Nat) (hA : A.tmps.size = 201)
  (hr0 : A.eval (.tmp 93) = u0) (hr1 : A.eval (.tmp 99) = u1) (hr2 : A.eval (.tmp 106) = u2) (hx0 : A.eval (.tmp 94) = .int .i64 x0) (hx1 : A.eval (.tmp 101) = .int .i64 x1) (hx2 : A.eval (.tmp 108) = .int .i64 x2)
  (h12 : A.eval (.tmp 12) = .pointer (some ⟨g12, 0, none⟩)) (h88 : A.eval (.tmp 88) = .int .i64 K0) (hK0 : K0 < 2) (hl : r0.length ≤ 1000 ∧ r1.length ≤ 1000 ∧ r2.length ≤ 1000)
  (O0 : OwnI W0 base u0 r0) (O1 : OwnI W0 base u1 r1) (O2 : OwnI W0 base u2 r2) (D01 : ∀ k, u0.ownBlock = some k → u1.ownBlock ≠ some k) (D02 : ∀ k, u0.ownBlock = some k → u2.ownBlock ≠ some k) (D12 : ∀ k, u1.ownBlock = some k → u2.ownBlock ≠ some k) (hbs : base ≤ W0.heap.size)
  (hS : ∀ W', Below base W0 W' → Keep3 W0 W' u0 u1 u2 → S W') (hQ : ∀ c a w v, Q (.panic c) (a.put (some 111) v) w → Q (.panic c) a w)
  (hend : ∀ (s0 s1 s2 v0 v1 v2 : Value) (W' : World), Below base W0 W' → OwnI W' base v0 (r0 ++ [x0]) → OwnI W' base v1 (r1 ++ [x1]) → OwnI W' base v2 (r2 ++ [x2]) → (∀ k, v0.ownBlock = some k → v1.ownBlock ≠ some k) → (∀ k, v0.ownBlock = some k → v2.ownBlock ≠ some k) → (∀ k, v1.ownBlock = some k → v2.ownBlock ≠ some k) →
    (v0.ownBlock = u0.ownBlock ∨ ∃ g, v0.ownBlock = some g ∧ W0.heap.size ≤ g) → (v1.ownBlock = u1.ownBlock ∨ ∃ g, v1.ownBlock = some g ∧ W0.heap.size ≤ g) → (v2.ownBlock = u2.ownBlock ∨ ∃ g, v2.ownBlock = some g ∧ W0.heap.size ≤ g) → Keep3 W0 W' u0 u1 u2 →
    wpAnyLast Try.prog .any (opsOf Try.f12 16) Q S [24, 26, 28] f #[true, true, true, true, true, true, true, true, true, true, true, true, true, true, true, true, true, true, true, true, true, true, true, true, false, false, false, false, false] (((((((A.put (some 95) s0).put (some 96) v0).put (some 111) (.pointer (some ⟨g12, K0, none⟩))).put (some 102) s1).put (some 103) v1).put (some 109) s2).put (some 110) v2) W') :
  wpAnyLast Try.prog .any (opsOf Try.f12 16) Q S [24, 26, 28] (f + 7) #[true, true, true, true, true, true, true, false, false, true, true, true, true, true, false, false, true, true, true, true, true, false, false, false, false, false, false, false, false] A W0 := by
 obtain ⟨op7, h7, o7, d7, w7_⟩ := op_find (ops := opsOf Try.f12 16) (i := 7) (x := ((.buildSlice 22 1 #[(0, .tmp 94)]), some 95, true)) (by kernel_rfl)
 have w7 := w7_ rfl
 replace o7 : op7.op = (.buildSlice 22 1 #[(0, .tmp 94)]) := o7
 replace d7 : op7.dst = some 95 := d7
 clear w7_
 obtain ⟨op14, h14, o14, d14, w14_⟩ := op_find (ops := opsOf Try.f12 16) (i := 14) (x := ((.buildSlice 22 1 #[(0, .tmp 101)]), some 102, true)) (by kernel_rfl)
 have w14 := w14_ rfl
 replace o14 : op14.op = (.buildSlice 22 1 #[(0, .tmp 101)]) := o14
 replace d14 : op14.dst = some 102 := d14
 clear w14_
 obtain ⟨op21, h21, o21, d21, w21_⟩ := op_find (ops := opsOf Try.f12 16) (i := 21) (x := ((.buildSlice 22 1 #[(0, .tmp 108)]), some 109, true)) (by kernel_rfl)
 have w21 := w21_ rfl
 replace o21 : op21.op = (.buildSlice 22 1 #[(0, .tmp 108)]) := o21
 replace d21 : op21.dst = some 109 := d21
 clear w21_
 obtain ⟨op8, h8, o8, d8, w8_⟩ := op_find (ops := opsOf Try.f12 16) (i := 8) (x := ((.call { callee := .builtin .append, args := #[.tmp 93, .tmp 95], argTypes := #[22, 22] }), some 96, true)) (by kernel_rfl)
 have w8 := w8_ rfl
 replace o8 : op8.op = (.call { callee := .builtin .append, args := #[.tmp 93, .tmp 95], argTypes := #[22, 22] }) := o8
 replace d8 : op8.dst = some 96 := d8
 clear w8_
 obtain ⟨op15, h15, o15, d15, w15_⟩ := op_find (ops := opsOf Try.f12 16) (i := 15) (x := ((.call { callee := .builtin .append, args := #[.tmp 99, .tmp 102], argTypes := #[22, 22] }), some 103, true)) (by kernel_rfl)
 have w15 := w15_ rfl
 replace o15 : op15.op = (.call { callee := .builtin .append, args := #[.tmp 99, .tmp 102], argTypes := #[22, 22] }) := o15
 replace d15 : op15.dst = some 103 := d15
 clear w15_
 obtain ⟨op22, h22, o22, d22, w22_⟩ := op_find (ops := opsOf Try.f12 16) (i := 22) (x := ((.call { callee := .builtin .append, args := #[.tmp 106, .tmp 109], argTypes := #[22, 22] }), some 110, true)) (by kernel_rfl)
 have w22 := w22_ rfl
 replace o22 : op22.op = (.call { callee := .builtin .append, args := #[.tmp 106, .tmp 109], argTypes := #[22, 22] }) := o22
 replace d22 : op22.dst = some 110 := d22
 clear w22_
 obtain ⟨op23, h23, o23, d23, w23_⟩ := op_find (ops := opsOf Try.f12 16) (i := 23) (x := ((.indexAddr 63 (.tmp 12) (.tmp 88)), some 111, true)) (by kernel_rfl)
 have w23 := w23_ rfl
 replace o23 : op23.op = (.indexAddr 63 (.tmp 12) (.tmp 88)) := o23
 replace d23 : op23.dst = some 111 := d23
 clear w23_
 have hP : Keep3 W0 W0 u0 u1 u2 := fun k o hk _ _ _ => hk
 obtain ⟨W, hW⟩ : ∃ W : World, W = W0 := ⟨_, rfl⟩
 rw [← hW] at O0 O1 O2
 have hB : Below base W0 W := by rw [hW]; exact Below.refl base W0
 replace hP : Keep3 W0 W u0 u1 u2 := by rw [hW]; exact hP
 rw [show wpAnyLast Try.prog .any (opsOf Try.f12 16) Q S [24, 26, 28] (f + 7) #[true, true, true, true, true, true, true, false, false, true, true, true, true, true, false, false, true, true, true, true, true, false, false, false, false, false, false, false, false] A W0 = wpAnyLast Try.prog .any (opsOf Try.f12 16) Q S [24, 26, 28] (f + 7) #[true, true, true, true, true, true, true, false, false, true, true, true, true, true, false, false, true, true, true, true, true, false, false, false, false, false, false, false, false] A W by rw [hW]]
 clear hW
 refine three3_ (i := 7) (j := 14) (k := 21) (Ni := some 95) (Nj := some 102) (Nk := some 109) #[true, true, true, true, true, true, true, true, false, true, true, true, true, true, false, false, true, true, true, true, true, false, false, false, false, false, false, false, false] #[true, true, true, true, true, true, true, false, false, true, true, true, true, true, true, false, true, true, true, true, true, false, false, false, false, false, false, false, false] #[true, true, true, true, true, true, true, false, false, true, true, true, true, true, false, false, true, true, true, true, true, true, false, false, false, false, false, false, false] h7 h14 h21 d7 d14 d21 tr16_tab (by kernel_rfl) (by decide) (by decide) (by decide) (fun K hK => ?_) (fun K hK => ?_) (fun K hK => ?_)
 · rw [← d7]
   refine step_build (w7 _) o7 x0 (rfl.trans hx0) ?_
   rw [d7]
   have hb_ := below_alloc (Below.refl W.heap.size W) (.cells #[.int .i64 x0] 3)
   replace hP := keep_below hP hb_
   replace hB := hB.trans (hb_.mono (Nat.le_trans hbs hB.size))
   have C0 := one_cell W x0 3
   have N00 : ∀ k, u0.ownBlock = some k → k ≠ W.heap.size := fun k hk => by have := (O0.lt k hk).2; omega
   have N01 : ∀ k, u1.ownBlock = some k → k ≠ W.heap.size := fun k hk => by have := (O1.lt k hk).2; omega
   have N02 : ∀ k, u2.ownBlock = some k → k ≠ W.heap.size := fun k hk => by have := (O2.lt k hk).2; omega
   replace O0 := O0.below hb_
   replace O1 := O1.below hb_
   replace O2 := O2.below hb_
   refine hK.out _ _ (hS _ hB hP) (fun sS_ => ?_)
   clear sS_
   clear hK K hb_
   obtain ⟨s0, hs0⟩ : ∃ g, g = W.heap.size := ⟨_, rfl⟩
   rw [← hs0] at C0 N00 N01 N02 ⊢
   clear hs0
   generalize W.alloc (.cells #[.int .i64 x0] 3) = W at hB hP O0 O1 O2 C0 ⊢
   refine three3_ (i := 8) (j := 14) (k := 21) (Ni := some 96) (Nj := some 102) (Nk := some 109) #[true, true, true, true, true, true, true, true, true, true, true, true, true, true, false, false, true, true, true, true, true, false, false, false, false, false, false, false, false] #[true, true, true, true, true, true, true, true, false, true, true, true, true, true, true, false, true, true, true, true, true, false, false, false, false, false, false, false, false] #[true, true, true, true, true, true, true, true, false, true, true, true, true, true, false, false, true, true, true, true, true, true, false, false, false, false, false, false, false] h8 h14 h21 d8 d14 d21 tr16_tab (by kernel_rfl) (by decide) (by decide) (by decide) (fun K hK => ?_) (fun K hK => ?_) (fun K hK => ?_)
   · rw [← d8]
     refine step_append_OwnI (w8 _) 22 und22 (.tmp 93) (.tmp 95) o8 base u0 r0 [x0] ((eput_ne _ 95 93 _ (by decide)).trans hr0) O0 ⟨s0, 0, none⟩ 1 1 (eput_same _ 95 _ (by (try simp only [size_put]); rw [hA]; decide)) rfl C0 (by have := hl; omega) (Nat.le_trans hbs hB.size) ?_
     intro v0 W2 hO hb_ hg ho
     rw [d8]
     replace hP := keep_grown0 hP hg
     have e0 : v0.ownBlock = u0.ownBlock ∨ ∃ g, v0.ownBlock = some g ∧ W0.heap.size ≤ g := ho.imp id (fun h => ⟨_, h, hB.size⟩)
     replace hB := hB.trans hb_
     have hO1 := O1.grown hg (fun k hk e => dist_sym D01 k hk e)
     have hD01 := dist_app D01 ho (fun k hk => (O1.lt k hk).2)
     have hO2 := O2.grown hg (fun k hk e => dist_sym D02 k hk e)
     have hD02 := dist_app D02 ho (fun k hk => (O2.lt k hk).2)
     clear O0 O1 O2 C0 D01 D02
     have O0 := hO
     have O1 := hO1; have D01 := hD01
     have O2 := hO2; have D02 := hD02
     clear hO ho hb_ hg hO1 hD01 hO2 hD02
     refine hK.out _ _ (hS _ hB hP) (fun sS_ => ?_)
     clear sS_
     clear hK K W
     obtain ⟨W, hW⟩ : ∃ W : World, W = W2 := ⟨_, rfl⟩
     subst hW
     refine take_ (i := 23) (N := some 111) (v := .pointer (some ⟨g12, K0, none⟩)) #[true, true, true, true, true, true, true, true, true, true, true, true, true, true, false, false, true, true, true, true, true, false, false, true, false, false, false, false, false] h23 d23 (take_ofW tr16_tab tr16_bits (by kernel_rfl)) (fun c a w h => hQ c a w _ (by rw [← d23]; exact h)) (Or.inl ⟨w23 _, fun w' _ => step_index o23 (((eput_ne _ 96 12 _ (by decide)).trans (eput_ne _ 95 12 _ (by decide))).trans h12) (((eput_ne _ 96 88 _ (by decide)).trans (eput_ne _ 95 88 _ (by decide))).trans h88) hK0⟩) (hS _ hB hP) rfl ?_
     refine two_ (i := 14) (j := 21) (Ni := some 102) (Nj := some 109) #[true, true, true, true, true, true, true, true, true, true, true, true, true, true, true, false, true, true, true, true, true, false, false, true, false, false, false, false, false] #[true, true, true, true, true, true, true, true, true, true, true, true, true, true, false, false, true, true, true, true, true, true, false, true, false, false, false, false, false] h14 h21 d14 d21 tr16_tab (by kernel_rfl) (by decide) (by decide) (fun K hK => ?_) (fun K hK => ?_)
     · rw [← d14]
       refine step_build (w14 _) o14 x1 ((((eput_ne _ 111 101 _ (by decide)).trans (eput_ne _ 96 101 _ (by decide))).trans (eput_ne _ 95 101 _ (by decide))).trans hx1) ?_
       rw [d14]
       have hb_ := below_alloc (Below.refl W.heap.size W) (.cells #[.int .i64 x1] 3)
       replace hP := keep_below hP hb_
       replace hB := hB.trans (hb_.mono (Nat.le_trans hbs hB.size))
       have C1 := one_cell W x1 3
       have N11 : ∀ k, u1.ownBlock = some k → k ≠ W.heap.size := fun k hk => by have := (O1.lt k hk).2; omega
       have N12 : ∀ k, u2.ownBlock = some k → k ≠ W.heap.size := fun k hk => by have := (O2.lt k hk).2; omega
       replace O0 := O0.below hb_
       replace O1 := O1.below hb_
       replace O2 := O2.below hb_
       refine hK.out _ _ (hS _ hB hP) (fun sS_ => ?_)
       clear sS_
       clear hK K hb_
       obtain ⟨s1, hs1⟩ : ∃ g, g = W.heap.size := ⟨_, rfl⟩
       rw [← hs1] at C1 N11 N12 ⊢
       clear hs1
       generalize W.alloc (.cells #[.int .i64 x1] 3) = W at hB hP O0 O1 O2 C1 ⊢
       refine two_ (i := 15) (j := 21) (Ni := some 103) (Nj := some 109) #[true, true, true, true, true, true, true, true, true, true, true, true, true, true, true, true, true, true, true, true, true, false, false, true, false, false, false, false, false] #[true, true, true, true, true, true, true, true, true, true, true, true, true, true, true, false, true, true, true, true, true, true, false, true, false, false, false, false, false] h15 h21 d15 d21 tr16_tab (by kernel_rfl) (by decide) (by decide) (fun K hK => ?_) (fun K hK => ?_)
       · rw [← d15]
         refine step_append_OwnI (w15 _) 22 und22 (.tmp 99) (.tmp 102) o15 base u1 r1 [x1] (((((eput_ne _ 102 99 _ (by decide)).trans (eput_ne _ 111 99 _ (by decide))).trans (eput_ne _ 96 99 _ (by decide))).trans (eput_ne _ 95 99 _ (by decide))).trans hr1) O1 ⟨s1, 0, none⟩ 1 1 (eput_same _ 102 _ (by (try simp only [size_put]); rw [hA]; decide)) rfl C1 (by have := hl; omega) (Nat.le_trans hbs hB.size) ?_
         intro v1 W2 hO hb_ hg ho
         rw [d15]
         replace hP := keep_grown1 hP hg
         have e1 : v1.ownBlock = u1.ownBlock ∨ ∃ g, v1.ownBlock = some g ∧ W0.heap.size ≤ g := ho.imp id (fun h => ⟨_, h, hB.size⟩)
         replace hB := hB.trans hb_
         have hO0 := O0.grown hg (fun k hk e => D01 k hk e)
         have hD01 := dist_sym (dist_app (dist_sym D01) ho (fun k hk => (O0.lt k hk).2))
         have hO2 := O2.grown hg (fun k hk e => dist_sym D12 k hk e)
         have hD12 := dist_app D12 ho (fun k hk => (O2.lt k hk).2)
         clear O0 O1 O2 C1 D01 D12
         have O1 := hO
         have O0 := hO0; have D01 := hD01
         have O2 := hO2; have D12 := hD12
         clear hO ho hb_ hg hO0 hD01 hO2 hD12
         refine hK.out _ _ (hS _ hB hP) (fun sS_ => ?_)
         clear sS_
         clear hK K W
         obtain ⟨W, hW⟩ : ∃ W : World, W = W2 := ⟨_, rfl⟩
         subst hW
         refine one_ (i := 21) (N := some 109) #[true, true, true, true, true, true, true, true, true, true, true, true, true, true, true, true, true, true, true, true, true, true, false, true, false, false, false, false, false] h21 d21 (one_of tr16_tab (by kernel_rfl)) (by decide) (fun K hK => ?_)
         · rw [← d21]
           refine step_build (w21 _) o21 x2 ((((((eput_ne _ 103 108 _ (by decide)).trans (eput_ne _ 102 108 _ (by decide))).trans (eput_ne _ 111 108 _ (by decide))).trans (eput_ne _ 96 108 _ (by decide))).trans (eput_ne _ 95 108 _ (by decide))).trans hx2) ?_
           rw [d21]
           have hb_ := below_alloc (Below.refl W.heap.size W) (.cells #[.int .i64 x2] 3)
           replace hP := keep_below hP hb_
           replace hB := hB.trans (hb_.mono (Nat.le_trans hbs hB.size))
           have C2 := one_cell W x2 3
           have N22 : ∀ k, u2.ownBlock = some k → k ≠ W.heap.size := fun k hk => by have := (O2.lt k hk).2; omega
           replace O0 := O0.below hb_
           replace O1 := O1.below hb_
           replace O2 := O2.below hb_
           refine hK.out _ _ (hS _ hB hP) (fun sS_ => ?_)
           clear sS_
           clear hK K hb_
           obtain ⟨s2, hs2⟩ : ∃ g, g = W.heap.size := ⟨_, rfl⟩
           rw [← hs2] at C2 N22 ⊢
           clear hs2
           generalize W.alloc (.cells #[.int .i64 x2] 3) = W at hB hP O0 O1 O2 C2 ⊢
           refine one_ (i := 22) (N := some 110) #[true, true, true, true, true, true, true, true, true, true, true, true, true, true, true, true, true, true, true, true, true, true, true, true, false, false, false, false, false] h22 d22 (one_of tr16_tab (by kernel_rfl)) (by decide) (fun K hK => ?_)
           · rw [← d22]
             refine step_append_OwnI (w22 _) 22 und22 (.tmp 106) (.tmp 109) o22 base u2 r2 [x2] (((((((eput_ne _ 109 106 _ (by decide)).trans (eput_ne _ 103 106 _ (by decide))).trans (eput_ne _ 102 106 _ (by decide))).trans (eput_ne _ 111 106 _ (by decide))).trans (eput_ne _ 96 106 _ (by decide))).trans (eput_ne _ 95 106 _ (by decide))).trans hr2) O2 ⟨s2, 0, none⟩ 1 1 (eput_same _ 109 _ (by (try simp only [size_put]); rw [hA]; decide)) rfl C2 (by have := hl; omega) (Nat.le_trans hbs hB.size) ?_
             intro v2 W2 hO hb_ hg ho
             rw [d22]
             replace hP := keep_grown2 hP hg
             have e2 : v2.ownBlock = u2.ownBlock ∨ ∃ g, v2.ownBlock = some g ∧ W0.heap.size ≤ g := ho.imp id (fun h => ⟨_, h, hB.size⟩)
             replace hB := hB.trans hb_
             have hO0 := O0.grown hg (fun k hk e => D02 k hk e)
             have hD02 := dist_sym (dist_app (dist_sym D02) ho (fun k hk => (O0.lt k hk).2))
             have hO1 := O1.grown hg (fun k hk e => D12 k hk e)
             have hD12 := dist_sym (dist_app (dist_sym D12) ho (fun k hk => (O1.lt k hk).2))
             clear O0 O1 O2 C2 D02 D12
             have O2 := hO
             have O0 := hO0; have D02 := hD02
             have O1 := hO1; have D12 := hD12
             clear hO ho hb_ hg hO0 hD02 hO1 hD12
             refine hK.out _ _ (hS _ hB hP) (fun sS_ => ?_)
             clear sS_
             clear hK K W
             obtain ⟨W, hW⟩ : ∃ W : World, W = W2 := ⟨_, rfl⟩
             subst hW
             exact hend _ _ _ _ _ _ _ hB O0 O1 O2 D01 D02 D12 e0 e1 e2 hP
       · rw [← d21]
         refine step_build (w21 _) o21 x2 (((((eput_ne _ 102 108 _ (by decide)).trans (eput_ne _ 111 108 _ (by decide))).trans (eput_ne _ 96 108 _ (by decide))).trans (eput_ne _ 95 108 _ (by decide))).trans hx2) ?_
         rw [d21]
         have hb_ := below_alloc (Below.refl W.heap.size W) (.cells #[.int .i64 x2] 3)
         replace hP := keep_below hP hb_
         replace hB := hB.trans (hb_.mono (Nat.le_trans hbs hB.size))
         have C2 := one_cell W x2 3
         have N21 : ∀ k, u1.ownBlock = some k → k ≠ W.heap.size := fun k hk => by have := (O1.lt k hk).2; omega
         have N22 : ∀ k, u2.ownBlock = some k → k ≠ W.heap.size := fun k hk => by have := (O2.lt k hk).2; omega
         replace C1 := fun j u hu => pw_cell_below hb_ (C1 j u hu)
         replace O0 := O0.below hb_
         replace O1 := O1.below hb_
         replace O2 := O2.below hb_
         refine hK.out _ _ (hS _ hB hP) (fun sS_ => ?_)
         clear sS_
         clear hK K hb_
         obtain ⟨s2, hs2⟩ : ∃ g, g = W.heap.size := ⟨_, rfl⟩
         rw [← hs2] at C2 N21 N22 ⊢
         clear hs2
         generalize W.alloc (.cells #[.int .i64 x2] 3) = W at hB hP O0 O1 O2 C1 C2 ⊢
         refine one_ (i := 15) (N := some 103) #[true, true, true, true, true, true, true, true, true, true, true, true, true, true, true, true, true, true, true, true, true, true, false, true, false, false, false, false, false] h15 d15 (one_of tr16_tab (by kernel_rfl)) (by decide) (fun K hK => ?_)
         · rw [← d15]
           refine step_append_OwnI (w15 _) 22 und22 (.tmp 99) (.tmp 102) o15 base u1 r1 [x1] ((((((eput_ne _ 109 99 _ (by decide)).trans (eput_ne _ 102 99 _ (by decide))).trans (eput_ne _ 111 99 _ (by decide))).trans (eput_ne _ 96 99 _ (by decide))).trans (eput_ne _ 95 99 _ (by decide))).trans hr1) O1 ⟨s1, 0, none⟩ 1 1 ((eput_ne _ 109 102 _ (by decide)).trans (eput_same _ 102 _ (by (try simp only [size_put]); rw [hA]; decide))) rfl C1 (by have := hl; omega) (Nat.le_trans hbs hB.size) ?_
           intro v1 W2 hO hb_ hg ho
           rw [d15]
           replace hP := keep_grown1 hP hg
           have e1 : v1.ownBlock = u1.ownBlock ∨ ∃ g, v1.ownBlock = some g ∧ W0.heap.size ≤ g := ho.imp id (fun h => ⟨_, h, hB.size⟩)
           replace hB := hB.trans hb_
           have hO0 := O0.grown hg (fun k hk e => D01 k hk e)
           have hD01 := dist_sym (dist_app (dist_sym D01) ho (fun k hk => (O0.lt k hk).2))
           have hO2 := O2.grown hg (fun k hk e => dist_sym D12 k hk e)
           have hD12 := dist_app D12 ho (fun k hk => (O2.lt k hk).2)
           replace C2 := fun j u hu => cell_grown hg (C2 j u hu) (fun e => by rw [add_blk0] at e; exact N21 _ e.symm rfl)
           clear O0 O1 O2 C1 D01 D12
           have O1 := hO
           have O0 := hO0; have D01 := hD01
           have O2 := hO2; have D12 := hD12
           clear hO ho hb_ hg hO0 hD01 hO2 hD12
           refine hK.out _ _ (hS _ hB hP) (fun sS_ => ?_)
           clear sS_
           clear hK K W
           obtain ⟨W, hW⟩ : ∃ W : World, W = W2 := ⟨_, rfl⟩
           subst hW
           refine one_ (i := 22) (N := some 110) #[true, true, true, true, true, true, true, true, true, true, true, true, true, true, true, true, true, true, true, true, true, true, true, true, false, false, false, false, false] h22 d22 (one_of tr16_tab (by kernel_rfl)) (by decide) (fun K hK => ?_)
           · rw [← d22]
             refine step_append_OwnI (w22 _) 22 und22 (.tmp 106) (.tmp 109) o22 base u2 r2 [x2] (((((((eput_ne _ 103 106 _ (by decide)).trans (eput_ne _ 109 106 _ (by decide))).trans (eput_ne _ 102 106 _ (by decide))).trans (eput_ne _ 111 106 _ (by decide))).trans (eput_ne _ 96 106 _ (by decide))).trans (eput_ne _ 95 106 _ (by decide))).trans hr2) O2 ⟨s2, 0, none⟩ 1 1 ((eput_ne _ 103 109 _ (by decide)).trans (eput_same _ 109 _ (by (try simp only [size_put]); rw [hA]; decide))) rfl C2 (by have := hl; omega) (Nat.le_trans hbs hB.size) ?_
             intro v2 W2 hO hb_ hg ho
             rw [d22]
             replace hP := keep_grown2 hP hg
             have e2 : v2.ownBlock = u2.ownBlock ∨ ∃ g, v2.ownBlock = some g ∧ W0.heap.size ≤ g := ho.imp id (fun h => ⟨_, h, hB.size⟩)
             replace hB := hB.trans hb_
             have hO0 := O0.grown hg (fun k hk e => D02 k hk e)
             have hD02 := dist_sym (dist_app (dist_sym D02) ho (fun k hk => (O0.lt k hk).2))
             have hO1 := O1.grown hg (fun k hk e => D12 k hk e)
             have hD12 := dist_sym (dist_app (dist_sym D12) ho (fun k hk => (O1.lt k hk).2))
             clear O0 O1 O2 C2 D02 D12
             have O2 := hO
             have O0 := hO0; have D02 := hD02
             have O1 := hO1; have D12 := hD12
             clear hO ho hb_ hg hO0 hD02 hO1 hD12
             refine hK.out _ _ (hS _ hB hP) (fun sS_ => ?_)
             clear sS_
             clear hK K W
             obtain ⟨W, hW⟩ : ∃ W : World, W = W2 := ⟨_, rfl⟩
             subst hW
             rw [put_comm (s := 109) (t := 103) (by decide)]
             exact hend _ _ _ _ _ _ _ hB O0 O1 O2 D01 D02 D12 e0 e1 e2 hP
     · rw [← d21]
       refine step_build (w21 _) o21 x2 ((((eput_ne _ 111 108 _ (by decide)).trans (eput_ne _ 96 108 _ (by decide))).trans (eput_ne _ 95 108 _ (by decide))).trans hx2) ?_
       rw [d21]
       have hb_ := below_alloc (Below.refl W.heap.size W) (.cells #[.int .i64 x2] 3)
       replace hP := keep_below hP hb_
       replace hB := hB.trans (hb_.mono (Nat.le_trans hbs hB.size))
       have C2 := one_cell W x2 3
       have N21 : ∀ k, u1.ownBlock = some k → k ≠ W.heap.size := fun k hk => by have := (O1.lt k hk).2; omega
       have N22 : ∀ k, u2.ownBlock = some k → k ≠ W.heap.size := fun k hk => by have := (O2.lt k hk).2; omega
       replace O0 := O0.below hb_
       replace O1 := O1.below hb_
       replace O2 := O2.below hb_
       refine hK.out _ _ (hS _ hB hP) (fun sS_ => ?_)
       clear sS_
       clear hK K hb_
       obtain ⟨s2, hs2⟩ : ∃ g, g = W.heap.size := ⟨_, rfl⟩
       rw [← hs2] at C2 N21 N22 ⊢
       clear hs2
       generalize W.alloc (.cells #[.int .i64 x2] 3) = W at hB hP O0 O1 O2 C2 ⊢
       refine one_ (i := 14) (N := some 102) #[true, true, true, true, true, true, true, true, true, true, true, true, true, true, true, false, true, true, true, true, true, true, false, true, false, false, false, false, false] h14 d14 (one_of tr16_tab (by kernel_rfl)) (by decide) (fun K hK => ?_)
       · rw [← d14]
         refine step_build (w14 _) o14 x1 (((((eput_ne _ 109 101 _ (by decide)).trans (eput_ne _ 111 101 _ (by decide))).trans (eput_ne _ 96 101 _ (by decide))).trans (eput_ne _ 95 101 _ (by decide))).trans hx1) ?_
         rw [d14]
         have hb_ := below_alloc (Below.refl W.heap.size W) (.cells #[.int .i64 x1] 3)
         replace hP := keep_below hP hb_
         replace hB := hB.trans (hb_.mono (Nat.le_trans hbs hB.size))
         have C1 := one_cell W x1 3
         have N11 : ∀ k, u1.ownBlock = some k → k ≠ W.heap.size := fun k hk => by have := (O1.lt k hk).2; omega
         have N12 : ∀ k, u2.ownBlock = some k → k ≠ W.heap.size := fun k hk => by have := (O2.lt k hk).2; omega
         replace C2 := fun j u hu => pw_cell_below hb_ (C2 j u hu)
         replace O0 := O0.below hb_
         replace O1 := O1.below hb_
         replace O2 := O2.below hb_
         refine hK.out _ _ (hS _ hB hP) (fun sS_ => ?_)
         clear sS_
         clear hK K hb_
         obtain ⟨s1, hs1⟩ : ∃ g, g = W.heap.size := ⟨_, rfl⟩
         rw [← hs1] at C1 N11 N12 ⊢
         clear hs1
         generalize W.alloc (.cells #[.int .i64 x1] 3) = W at hB hP O0 O1 O2 C1 C2 ⊢
         refine one_ (i := 15) (N := some 103) #[true, true, true, true, true, true, true, true, true, true, true, true, true, true, true, true, true, true, true, true, true, true, false, true, false, false, false, false, false] h15 d15 (one_of tr16_tab (by kernel_rfl)) (by decide) (fun K hK => ?_)
         · rw [← d15]
           refine step_append_OwnI (w15 _) 22 und22 (.tmp 99) (.tmp 102) o15 base u1 r1 [x1] ((((((eput_ne _ 102 99 _ (by decide)).trans (eput_ne _ 109 99 _ (by decide))).trans (eput_ne _ 111 99 _ (by decide))).trans (eput_ne _ 96 99 _ (by decide))).trans (eput_ne _ 95 99 _ (by decide))).trans hr1) O1 ⟨s1, 0, none⟩ 1 1 (eput_same _ 102 _ (by (try simp only [size_put]); rw [hA]; decide)) rfl C1 (by have := hl; omega) (Nat.le_trans hbs hB.size) ?_
           intro v1 W2 hO hb_ hg ho
           rw [d15]
           replace hP := keep_grown1 hP hg
           have e1 : v1.ownBlock = u1.ownBlock ∨ ∃ g, v1.ownBlock = some g ∧ W0.heap.size ≤ g := ho.imp id (fun h => ⟨_, h, hB.size⟩)
           replace hB := hB.trans hb_
           have hO0 := O0.grown hg (fun k hk e => D01 k hk e)
           have hD01 := dist_sym (dist_app (dist_sym D01) ho (fun k hk => (O0.lt k hk).2))
           have hO2 := O2.grown hg (fun k hk e => dist_sym D12 k hk e)
           have hD12 := dist_app D12 ho (fun k hk => (O2.lt k hk).2)
           replace C2 := fun j u hu => cell_grown hg (C2 j u hu) (fun e => by rw [add_blk0] at e; exact N21 _ e.symm rfl)
           clear O0 O1 O2 C1 D01 D12
           have O1 := hO
           have O0 := hO0; have D01 := hD01
           have O2 := hO2; have D12 := hD12
           clear hO ho hb_ hg hO0 hD01 hO2 hD12
           refine hK.out _ _ (hS _ hB hP) (fun sS_ => ?_)
           clear sS_
           clear hK K W
           obtain ⟨W, hW⟩ : ∃ W : World, W = W2 := ⟨_, rfl⟩
           subst hW
           refine one_ (i := 22) (N := some 110) #[true, true, true, true, true, true, true, true, true, true, true, true, true, true, true, true, true, true, true, true, true, true, true, true, false, false, false, false, false] h22 d22 (one_of tr16_tab (by kernel_rfl)) (by decide) (fun K hK => ?_)
           · rw [← d22]
             refine step_append_OwnI (w22 _) 22 und22 (.tmp 106) (.tmp 109) o22 base u2 r2 [x2] (((((((eput_ne _ 103 106 _ (by decide)).trans (eput_ne _ 102 106 _ (by decide))).trans (eput_ne _ 109 106 _ (by decide))).trans (eput_ne _ 111 106 _ (by decide))).trans (eput_ne _ 96 106 _ (by decide))).trans (eput_ne _ 95 106 _ (by decide))).trans hr2) O2 ⟨s2, 0, none⟩ 1 1 ((eput_ne _ 103 109 _ (by decide)).trans ((eput_ne _ 102 109 _ (by decide)).trans (eput_same _ 109 _ (by (try simp only [size_put]); rw [hA]; decide)))) rfl C2 (by have := hl; omega) (Nat.le_trans hbs hB.size) ?_
             intro v2 W2 hO hb_ hg ho
             rw [d22]
             replace hP := keep_grown2 hP hg
             have e2 : v2.ownBlock = u2.ownBlock ∨ ∃ g, v2.ownBlock = some g ∧ W0.heap.size ≤ g := ho.imp id (fun h => ⟨_, h, hB.size⟩)
             replace hB := hB.trans hb_
             have hO0 := O0.grown hg (fun k hk e => D02 k hk e)
             have hD02 := dist_sym (dist_app (dist_sym D02) ho (fun k hk => (O0.lt k hk).2))
             have hO1 := O1.grown hg (fun k hk e => D12 k hk e)
             have hD12 := dist_sym (dist_app (dist_sym D12) ho (fun k hk => (O1.lt k hk).2))
             clear O0 O1 O2 C2 D02 D12
             have O2 := hO
             have O0 := hO0; have D02 := hD02
             have O1 := hO1; have D12 := hD12
             clear hO ho hb_ hg hO0 hD02 hO1 hD12
             refine hK.out _ _ (hS _ hB hP) (fun sS_ => ?_)
             clear sS_
             clear hK K W
             obtain ⟨W, hW⟩ : ∃ W : World, W = W2 := ⟨_, rfl⟩
             subst hW
             rw [put_comm (s := 109) (t := 102) (by decide)]
             rw [put_comm (s := 109) (t := 103) (by decide)]
             exact hend _ _ _ _ _ _ _ hB O0 O1 O2 D01 D02 D12 e0 e1 e2 hP
   · rw [← d14]
     refine step_build (w14 _) o14 x1 ((eput_ne _ 95 101 _ (by decide)).trans hx1) ?_
     rw [d14]
     have hb_ := below_alloc (Below.refl W.heap.size W) (.cells #[.int .i64 x1] 3)
     replace hP := keep_below hP hb_
     replace hB := hB.trans (hb_.mono (Nat.le_trans hbs hB.size))
     have C1 := one_cell W x1 3
     have N10 : ∀ k, u0.ownBlock = some k → k ≠ W.heap.size := fun k hk => by have := (O0.lt k hk).2; omega
     have N11 : ∀ k, u1.ownBlock = some k → k ≠ W.heap.size := fun k hk => by have := (O1.lt k hk).2; omega
     have N12 : ∀ k, u2.ownBlock = some k → k ≠ W.heap.size := fun k hk => by have := (O2.lt k hk).2; omega
     replace C0 := fun j u hu => pw_cell_below hb_ (C0 j u hu)
     replace O0 := O0.below hb_
     replace O1 := O1.below hb_
     replace O2 := O2.below hb_
     refine hK.out _ _ (hS _ hB hP) (fun sS_ => ?_)
     clear sS_
     clear hK K hb_
     obtain ⟨s1, hs1⟩ : ∃ g, g = W.heap.size := ⟨_, rfl⟩
     rw [← hs1] at C1 N10 N11 N12 ⊢
     clear hs1
     generalize W.alloc (.cells #[.int .i64 x1] 3) = W at hB hP O0 O1 O2 C0 C1 ⊢
     refine two_ (i := 8) (j := 21) (Ni := some 96) (Nj := some 109) #[true, true, true, true, true, true, true, true, true, true, true, true, true, true, true, false, true, true, true, true, true, false, false, false, false, false, false, false, false] #[true, true, true, true, true, true, true, true, false, true, true, true, true, true, true, false, true, true, true, true, true, true, false, false, false, false, false, false, false] h8 h21 d8 d21 tr16_tab (by kernel_rfl) (by decide) (by decide) (fun K hK => ?_) (fun K hK => ?_)
     · rw [← d8]
       refine step_append_OwnI (w8 _) 22 und22 (.tmp 93) (.tmp 95) o8 base u0 r0 [x0] (((eput_ne _ 102 93 _ (by decide)).trans (eput_ne _ 95 93 _ (by decide))).trans hr0) O0 ⟨s0, 0, none⟩ 1 1 ((eput_ne _ 102 95 _ (by decide)).trans (eput_same _ 95 _ (by (try simp only [size_put]); rw [hA]; decide))) rfl C0 (by have := hl; omega) (Nat.le_trans hbs hB.size) ?_
       intro v0 W2 hO hb_ hg ho
       rw [d8]
       replace hP := keep_grown0 hP hg
       have e0 : v0.ownBlock = u0.ownBlock ∨ ∃ g, v0.ownBlock = some g ∧ W0.heap.size ≤ g := ho.imp id (fun h => ⟨_, h, hB.size⟩)
       replace hB := hB.trans hb_
       have hO1 := O1.grown hg (fun k hk e => dist_sym D01 k hk e)
       have hD01 := dist_app D01 ho (fun k hk => (O1.lt k hk).2)
       have hO2 := O2.grown hg (fun k hk e => dist_sym D02 k hk e)
       have hD02 := dist_app D02 ho (fun k hk => (O2.lt k hk).2)
       replace C1 := fun j u hu => cell_grown hg (C1 j u hu) (fun e => by rw [add_blk0] at e; exact N10 _ e.symm rfl)
       clear O0 O1 O2 C0 D01 D02
       have O0 := hO
       have O1 := hO1; have D01 := hD01
       have O2 := hO2; have D02 := hD02
       clear hO ho hb_ hg hO1 hD01 hO2 hD02
       refine hK.out _ _ (hS _ hB hP) (fun sS_ => ?_)
       clear sS_
       clear hK K W
       obtain ⟨W, hW⟩ : ∃ W : World, W = W2 := ⟨_, rfl⟩
       subst hW
       refine take_ (i := 23) (N := some 111) (v := .pointer (some ⟨g12, K0, none⟩)) #[true, true, true, true, true, true, true, true, true, true, true, true, true, true, true, false, true, true, true, true, true, false, false, true, false, false, false, false, false] h23 d23 (take_ofW tr16_tab tr16_bits (by kernel_rfl)) (fun c a w h => hQ c a w _ (by rw [← d23]; exact h)) (Or.inl ⟨w23 _, fun w' _ => step_index o23 ((((eput_ne _ 96 12 _ (by decide)).trans (eput_ne _ 102 12 _ (by decide))).trans (eput_ne _ 95 12 _ (by decide))).trans h12) ((((eput_ne _ 96 88 _ (by decide)).trans (eput_ne _ 102 88 _ (by decide))).trans (eput_ne _ 95 88 _ (by decide))).trans h88) hK0⟩) (hS _ hB hP) rfl ?_
       refine two_ (i := 15) (j := 21) (Ni := some 103) (Nj := some 109) #[true, true, true, true, true, true, true, true, true, true, true, true, true, true, true, true, true, true, true, true, true, false, false, true, false, false, false, false, false] #[true, true, true, true, true, true, true, true, true, true, true, true, true, true, true, false, true, true, true, true, true, true, false, true, false, false, false, false, false] h15 h21 d15 d21 tr16_tab (by kernel_rfl) (by decide) (by decide) (fun K hK => ?_) (fun K hK => ?_)
       · rw [← d15]
         refine step_append_OwnI (w15 _) 22 und22 (.tmp 99) (.tmp 102) o15 base u1 r1 [x1] (((((eput_ne _ 111 99 _ (by decide)).trans (eput_ne _ 96 99 _ (by decide))).trans (eput_ne _ 102 99 _ (by decide))).trans (eput_ne _ 95 99 _ (by decide))).trans hr1) O1 ⟨s1, 0, none⟩ 1 1 ((eput_ne _ 111 102 _ (by decide)).trans ((eput_ne _ 96 102 _ (by decide)).trans (eput_same _ 102 _ (by (try simp only [size_put]); rw [hA]; decide)))) rfl C1 (by have := hl; omega) (Nat.le_trans hbs hB.size) ?_
         intro v1 W2 hO hb_ hg ho
         rw [d15]
         replace hP := keep_grown1 hP hg
         have e1 : v1.ownBlock = u1.ownBlock ∨ ∃ g, v1.ownBlock = some g ∧ W0.heap.size ≤ g := ho.imp id (fun h => ⟨_, h, hB.size⟩)
         replace hB := hB.trans hb_
         have hO0 := O0.grown hg (fun k hk e => D01 k hk e)
         have hD01 := dist_sym (dist_app (dist_sym D01) ho (fun k hk => (O0.lt k hk).2))
         have hO2 := O2.grown hg (fun k hk e => dist_sym D12 k hk e)
         have hD12 := dist_app D12 ho (fun k hk => (O2.lt k hk).2)
         clear O0 O1 O2 C1 D01 D12
         have O1 := hO
         have O0 := hO0; have D01 := hD01
         have O2 := hO2; have D12 := hD12
         clear hO ho hb_ hg hO0 hD01 hO2 hD12
         refine hK.out _ _ (hS _ hB hP) (fun sS_ => ?_)
         clear sS_
         clear hK K W
         obtain ⟨W, hW⟩ : ∃ W : World, W = W2 := ⟨_, rfl⟩
         subst hW
         refine one_ (i := 21) (N := some 109) #[true, true, true, true, true, true, true, true, true, true, true, true, true, true, true, true, true, true, true, true, true, true, false, true, false, false, false, false, false] h21 d21 (one_of tr16_tab (by kernel_rfl)) (by decide) (fun K hK => ?_)
         · rw [← d21]
           refine step_build (w21 _) o21 x2 ((((((eput_ne _ 103 108 _ (by decide)).trans (eput_ne _ 111 108 _ (by decide))).trans (eput_ne _ 96 108 _ (by decide))).trans (eput_ne _ 102 108 _ (by decide))).trans (eput_ne _ 95 108 _ (by decide))).trans hx2) ?_
           rw [d21]
           have hb_ := below_alloc (Below.refl W.heap.size W) (.cells #[.int .i64 x2] 3)
           replace hP := keep_below hP hb_
           replace hB := hB.trans (hb_.mono (Nat.le_trans hbs hB.size))
           have C2 := one_cell W x2 3
           have N22 : ∀ k, u2.ownBlock = some k → k ≠ W.heap.size := fun k hk => by have := (O2.lt k hk).2; omega
           replace O0 := O0.below hb_
           replace O1 := O1.below hb_
           replace O2 := O2.below hb_
           refine hK.out _ _ (hS _ hB hP) (fun sS_ => ?_)
           clear sS_
           clear hK K hb_
           obtain ⟨s2, hs2⟩ : ∃ g, g = W.heap.size := ⟨_, rfl⟩
           rw [← hs2] at C2 N22 ⊢
           clear hs2
           generalize W.alloc (.cells #[.int .i64 x2] 3) = W at hB hP O0 O1 O2 C2 ⊢
           refine one_ (i := 22) (N := some 110) #[true, true, true, true, true, true, true, true, true, true, true, true, true, true, true, true, true, true, true, true, true, true, true, true, false, false, false, false, false] h22 d22 (one_of tr16_tab (by kernel_rfl)) (by decide) (fun K hK => ?_)
           · rw [← d22]
             refine step_append_OwnI (w22 _) 22 und22 (.tmp 106) (.tmp 109) o22 base u2 r2 [x2] (((((((eput_ne _ 109 106 _ (by decide)).trans (eput_ne _ 103 106 _ (by decide))).trans (eput_ne _ 111 106 _ (by decide))).trans (eput_ne _ 96 106 _ (by decide))).trans (eput_ne _ 102 106 _ (by decide))).trans (eput_ne _ 95 106 _ (by decide))).trans hr2) O2 ⟨s2, 0, none⟩ 1 1 (eput_same _ 109 _ (by (try simp only [size_put]); rw [hA]; decide)) rfl C2 (by have := hl; omega) (Nat.le_trans hbs hB.size) ?_
             intro v2 W2 hO hb_ hg ho
             rw [d22]
             replace hP := keep_grown2 hP hg
             have e2 : v2.ownBlock = u2.ownBlock ∨ ∃ g, v2.ownBlock = some g ∧ W0.heap.size ≤ g := ho.imp id (fun h => ⟨_, h, hB.size⟩)
             replace hB := hB.trans hb_
             have hO0 := O0.grown hg (fun k hk e => D02 k hk e)
             have hD02 := dist_sym (dist_app (dist_sym D02) ho (fun k hk => (O0.lt k hk).2))
             have hO1 := O1.grown hg (fun k hk e => D12 k hk e)
             have hD12 := dist_sym (dist_app (dist_sym D12) ho (fun k hk => (O1.lt k hk).2))
             clear O0 O1 O2 C2 D02 D12
             have O2 := hO
             have O0 := hO0; have D02 := hD02
             have O1 := hO1; have D12 := hD12
             clear hO ho hb_ hg hO0 hD02 hO1 hD12
             refine hK.out _ _ (hS _ hB hP) (fun sS_ => ?_)
             clear sS_
             clear hK K W
             obtain ⟨W, hW⟩ : ∃ W : World, W = W2 := ⟨_, rfl⟩
             subst hW
             rw [put_comm (s := 102) (t := 96) (by decide)]
             rw [put_comm (s := 102) (t := 111) (by decide)]
             exact hend _ _ _ _ _ _ _ hB O0 O1 O2 D01 D02 D12 e0 e1 e2 hP
       · rw [← d21]
         refine step_build (w21 _) o21 x2 (((((eput_ne _ 111 108 _ (by decide)).trans (eput_ne _ 96 108 _ (by decide))).trans (eput_ne _ 102 108 _ (by decide))).trans (eput_ne _ 95 108 _ (by decide))).trans hx2) ?_
         rw [d21]
         have hb_ := below_alloc (Below.refl W.heap.size W) (.cells #[.int .i64 x2] 3)
         replace hP := keep_below hP hb_
         replace hB := hB.trans (hb_.mono (Nat.le_trans hbs hB.size))
         have C2 := one_cell W x2 3
         have N21 : ∀ k, u1.ownBlock = some k → k ≠ W.heap.size := fun k hk => by have := (O1.lt k hk).2; omega
         have N22 : ∀ k, u2.ownBlock = some k → k ≠ W.heap.size := fun k hk => by have := (O2.lt k hk).2; omega
         replace C1 := fun j u hu => pw_cell_below hb_ (C1 j u hu)
         replace O0 := O0.below hb_
         replace O1 := O1.below hb_
         replace O2 := O2.below hb_
         refine hK.out _ _ (hS _ hB hP) (fun sS_ => ?_)
         clear sS_
         clear hK K hb_
         obtain ⟨s2, hs2⟩ : ∃ g, g = W.heap.size := ⟨_, rfl⟩
         rw [← hs2] at C2 N21 N22 ⊢
         clear hs2
         generalize W.alloc (.cells #[.int .i64 x2] 3) = W at hB hP O0 O1 O2 C1 C2 ⊢
         refine one_ (i := 15) (N := some 103) #[true, true, true, true, true, true, true, true, true, true, true, true, true, true, true, true, true, true, true, true, true, true, false, true, false, false, false, false, false] h15 d15 (one_of tr16_tab (by kernel_rfl)) (by decide) (fun K hK => ?_)
         · rw [← d15]
           refine step_append_OwnI (w15 _) 22 und22 (.tmp 99) (.tmp 102) o15 base u1 r1 [x1] ((((((eput_ne _ 109 99 _ (by decide)).trans (eput_ne _ 111 99 _ (by decide))).trans (eput_ne _ 96 99 _ (by decide))).trans (eput_ne _ 102 99 _ (by decide))).trans (eput_ne _ 95 99 _ (by decide))).trans hr1) O1 ⟨s1, 0, none⟩ 1 1 ((eput_ne _ 109 102 _ (by decide)).trans ((eput_ne _ 111 102 _ (by decide)).trans ((eput_ne _ 96 102 _ (by decide)).trans (eput_same _ 102 _ (by (try simp only [size_put]); rw [hA]; decide))))) rfl C1 (by have := hl; omega) (Nat.le_trans hbs hB.size) ?_
           intro v1 W2 hO hb_ hg ho
           rw [d15]
           replace hP := keep_grown1 hP hg
           have e1 : v1.ownBlock = u1.ownBlock ∨ ∃ g, v1.ownBlock = some g ∧ W0.heap.size ≤ g := ho.imp id (fun h => ⟨_, h, hB.size⟩)
           replace hB := hB.trans hb_
           have hO0 := O0.grown hg (fun k hk e => D01 k hk e)
           have hD01 := dist_sym (dist_app (dist_sym D01) ho (fun k hk => (O0.lt k hk).2))
           have hO2 := O2.grown hg (fun k hk e => dist_sym D12 k hk e)
           have hD12 := dist_app D12 ho (fun k hk => (O2.lt k hk).2)
           replace C2 := fun j u hu => cell_grown hg (C2 j u hu) (fun e => by rw [add_blk0] at e; exact N21 _ e.symm rfl)
           clear O0 O1 O2 C1 D01 D12
           have O1 := hO
           have O0 := hO0; have D01 := hD01
           have O2 := hO2; have D12 := hD12
           clear hO ho hb_ hg hO0 hD01 hO2 hD12
           refine hK.out _ _ (hS _ hB hP) (fun sS_ => ?_)
           clear sS_
           clear hK K W
           obtain ⟨W, hW⟩ : ∃ W : World, W = W2 := ⟨_, rfl⟩
           subst hW
           refine one_ (i := 22) (N := some 110) #[true, true, true, true, true, true, true, true, true, true, true, true, true, true, true, true, true, true, true, true, true, true, true, true, false, false, false, false, false] h22 d22 (one_of tr16_tab (by kernel_rfl)) (by decide) (fun K hK => ?_)
           · rw [← d22]
             refine step_append_OwnI (w22 _) 22 und22 (.tmp 106) (.tmp 109) o22 base u2 r2 [x2] (((((((eput_ne _ 103 106 _ (by decide)).trans (eput_ne _ 109 106 _ (by decide))).trans (eput_ne _ 111 106 _ (by decide))).trans (eput_ne _ 96 106 _ (by decide))).trans (eput_ne _ 102 106 _ (by decide))).trans (eput_ne _ 95 106 _ (by decide))).trans hr2) O2 ⟨s2, 0, none⟩ 1 1 ((eput_ne _ 103 109 _ (by decide)).trans (eput_same _ 109 _ (by (try simp only [size_put]); rw [hA]; decide))) rfl C2 (by have := hl; omega) (Nat.le_trans hbs hB.size) ?_
             intro v2 W2 hO hb_ hg ho
             rw [d22]
             replace hP := keep_grown2 hP hg
             have e2 : v2.ownBlock = u2.ownBlock ∨ ∃ g, v2.ownBlock = some g ∧ W0.heap.size ≤ g := ho.imp id (fun h => ⟨_, h, hB.size⟩)
             replace hB := hB.trans hb_
             have hO0 := O0.grown hg (fun k hk e => D02 k hk e)
             have hD02 := dist_sym (dist_app (dist_sym D02) ho (fun k hk => (O0.lt k hk).2))
             have hO1 := O1.grown hg (fun k hk e => D12 k hk e)
             have hD12 := dist_sym (dist_app (dist_sym D12) ho (fun k hk => (O1.lt k hk).2))
             clear O0 O1 O2 C2 D02 D12
             have O2 := hO
             have O0 := hO0; have D02 := hD02
             have O1 := hO1; have D12 := hD12
             clear hO ho hb_ hg hO0 hD02 hO1 hD12
             refine hK.out _ _ (hS _ hB hP) (fun sS_ => ?_)
             clear sS_
             clear hK K W
             obtain ⟨W, hW⟩ : ∃ W : World, W = W2 := ⟨_, rfl⟩
             subst hW
             rw [put_comm (s := 102) (t := 96) (by decide)]
             rw [put_comm (s := 102) (t := 111) (by decide)]
             rw [put_comm (s := 109) (t := 103) (by decide)]
             exact hend _ _ _ _ _ _ _ hB O0 O1 O2 D01 D02 D12 e0 e1 e2 hP
     · rw [← d21]
       refine step_build (w21 _) o21 x2 (((eput_ne _ 102 108 _ (by decide)).trans (eput_ne _ 95 108 _ (by decide))).trans hx2) ?_
       rw [d21]
       have hb_ := below_alloc (Below.refl W.heap.size W) (.cells #[.int .i64 x2] 3)
       replace hP := keep_below hP hb_
       replace hB := hB.trans (hb_.mono (Nat.le_trans hbs hB.size))
       have C2 := one_cell W x2 3
       have N20 : ∀ k, u0.ownBlock = some k → k ≠ W.heap.size := fun k hk => by have := (O0.lt k hk).2; omega
       have N21 : ∀ k, u1.ownBlock = some k → k ≠ W.heap.size := fun k hk => by have := (O1.lt k hk).2; omega
       have N22 : ∀ k, u2.ownBlock = some k → k ≠ W.heap.size := fun k hk => by have := (O2.lt k hk).2; omega
       replace C0 := fun j u hu => pw_cell_below hb_ (C0 j u hu)
       replace C1 := fun j u hu => pw_cell_below hb_ (C1 j u hu)
       replace O0 := O0.below hb_
       replace O1 := O1.below hb_
       replace O2 := O2.below hb_
       refine hK.out _ _ (hS _ hB hP) (fun sS_ => ?_)
       clear sS_
       clear hK K hb_
       obtain ⟨s2, hs2⟩ : ∃ g, g = W.heap.size := ⟨_, rfl⟩
       rw [← hs2] at C2 N20 N21 N22 ⊢
       clear hs2
       generalize W.alloc (.cells #[.int .i64 x2] 3) = W at hB hP O0 O1 O2 C0 C1 C2 ⊢
       refine one_ (i := 8) (N := some 96) #[true, true, true, true, true, true, true, true, true, true, true, true, true, true, true, false, true, true, true, true, true, true, false, false, false, false, false, false, false] h8 d8 (one_of tr16_tab (by kernel_rfl)) (by decide) (fun K hK => ?_)
       · rw [← d8]
         refine step_append_OwnI (w8 _) 22 und22 (.tmp 93) (.tmp 95) o8 base u0 r0 [x0] ((((eput_ne _ 109 93 _ (by decide)).trans (eput_ne _ 102 93 _ (by decide))).trans (eput_ne _ 95 93 _ (by decide))).trans hr0) O0 ⟨s0, 0, none⟩ 1 1 ((eput_ne _ 109 95 _ (by decide)).trans ((eput_ne _ 102 95 _ (by decide)).trans (eput_same _ 95 _ (by (try simp only [size_put]); rw [hA]; decide)))) rfl C0 (by have := hl; omega) (Nat.le_trans hbs hB.size) ?_
         intro v0 W2 hO hb_ hg ho
         rw [d8]
         replace hP := keep_grown0 hP hg
         have e0 : v0.ownBlock = u0.ownBlock ∨ ∃ g, v0.ownBlock = some g ∧ W0.heap.size ≤ g := ho.imp id (fun h => ⟨_, h, hB.size⟩)
         replace hB := hB.trans hb_
         have hO1 := O1.grown hg (fun k hk e => dist_sym D01 k hk e)
         have hD01 := dist_app D01 ho (fun k hk => (O1.lt k hk).2)
         have hO2 := O2.grown hg (fun k hk e => dist_sym D02 k hk e)
         have hD02 := dist_app D02 ho (fun k hk => (O2.lt k hk).2)
         replace C1 := fun j u hu => cell_grown hg (C1 j u hu) (fun e => by rw [add_blk0] at e; exact N10 _ e.symm rfl)
         replace C2 := fun j u hu => cell_grown hg (C2 j u hu) (fun e => by rw [add_blk0] at e; exact N20 _ e.symm rfl)
         clear O0 O1 O2 C0 D01 D02
         have O0 := hO
         have O1 := hO1; have D01 := hD01
         have O2 := hO2; have D02 := hD02
         clear hO ho hb_ hg hO1 hD01 hO2 hD02
         refine hK.out _ _ (hS _ hB hP) (fun sS_ => ?_)
         clear sS_
         clear hK K W
         obtain ⟨W, hW⟩ : ∃ W : World, W = W2 := ⟨_, rfl⟩
         subst hW
         refine take_ (i := 23) (N := some 111) (v := .pointer (some ⟨g12, K0, none⟩)) #[true, true, true, true, true, true, true, true, true, true, true, true, true, true, true, false, true, true, true, true, true, true, false, true, false, false, false, false, false] h23 d23 (take_ofW tr16_tab tr16_bits (by kernel_rfl)) (fun c a w h => hQ c a w _ (by rw [← d23]; exact h)) (Or.inl ⟨w23 _, fun w' _ => step_index o23 (((((eput_ne _ 96 12 _ (by decide)).trans (eput_ne _ 109 12 _ (by decide))).trans (eput_ne _ 102 12 _ (by decide))).trans (eput_ne _ 95 12 _ (by decide))).trans h12) (((((eput_ne _ 96 88 _ (by decide)).trans (eput_ne _ 109 88 _ (by decide))).trans (eput_ne _ 102 88 _ (by decide))).trans (eput_ne _ 95 88 _ (by decide))).trans h88) hK0⟩) (hS _ hB hP) rfl ?_
         refine one_ (i := 15) (N := some 103) #[true, true, true, true, true, true, true, true, true, true, true, true, true, true, true, true, true, true, true, true, true, true, false, true, false, false, false, false, false] h15 d15 (one_of tr16_tab (by kernel_rfl)) (by decide) (fun K hK => ?_)
         · rw [← d15]
           refine step_append_OwnI (w15 _) 22 und22 (.tmp 99) (.tmp 102) o15 base u1 r1 [x1] ((((((eput_ne _ 111 99 _ (by decide)).trans (eput_ne _ 96 99 _ (by decide))).trans (eput_ne _ 109 99 _ (by decide))).trans (eput_ne _ 102 99 _ (by decide))).trans (eput_ne _ 95 99 _ (by decide))).trans hr1) O1 ⟨s1, 0, none⟩ 1 1 ((eput_ne _ 111 102 _ (by decide)).trans ((eput_ne _ 96 102 _ (by decide)).trans ((eput_ne _ 109 102 _ (by decide)).trans (eput_same _ 102 _ (by (try simp only [size_put]); rw [hA]; decide))))) rfl C1 (by have := hl; omega) (Nat.le_trans hbs hB.size) ?_
           intro v1 W2 hO hb_ hg ho
           rw [d15]
           replace hP := keep_grown1 hP hg
           have e1 : v1.ownBlock = u1.ownBlock ∨ ∃ g, v1.ownBlock = some g ∧ W0.heap.size ≤ g := ho.imp id (fun h => ⟨_, h, hB.size⟩)
           replace hB := hB.trans hb_
           have hO0 := O0.grown hg (fun k hk e => D01 k hk e)
           have hD01 := dist_sym (dist_app (dist_sym D01) ho (fun k hk => (O0.lt k hk).2))
           have hO2 := O2.grown hg (fun k hk e => dist_sym D12 k hk e)
           have hD12 := dist_app D12 ho (fun k hk => (O2.lt k hk).2)
           replace C2 := fun j u hu => cell_grown hg (C2 j u hu) (fun e => by rw [add_blk0] at e; exact N21 _ e.symm rfl)
           clear O0 O1 O2 C1 D01 D12
           have O1 := hO
           have O0 := hO0; have D01 := hD01
           have O2 := hO2; have D12 := hD12
           clear hO ho hb_ hg hO0 hD01 hO2 hD12
           refine hK.out _ _ (hS _ hB hP) (fun sS_ => ?_)
           clear sS_
           clear hK K W
           obtain ⟨W, hW⟩ : ∃ W : World, W = W2 := ⟨_, rfl⟩
           subst hW
           refine one_ (i := 22) (N := some 110) #[true, true, true, true, true, true, true, true, true, true, true, true, true, true, true, true, true, true, true, true, true, true, true, true, false, false, false, false, false] h22 d22 (one_of tr16_tab (by kernel_rfl)) (by decide) (fun K hK => ?_)
           · rw [← d22]
             refine step_append_OwnI (w22 _) 22 und22 (.tmp 106) (.tmp 109) o22 base u2 r2 [x2] (((((((eput_ne _ 103 106 _ (by decide)).trans (eput_ne _ 111 106 _ (by decide))).trans (eput_ne _ 96 106 _ (by decide))).trans (eput_ne _ 109 106 _ (by decide))).trans (eput_ne _ 102 106 _ (by decide))).trans (eput_ne _ 95 106 _ (by decide))).trans hr2) O2 ⟨s2, 0, none⟩ 1 1 ((eput_ne _ 103 109 _ (by decide)).trans ((eput_ne _ 111 109 _ (by decide)).trans ((eput_ne _ 96 109 _ (by decide)).trans (eput_same _ 109 _ (by (try simp only [size_put]); rw [hA]; decide))))) rfl C2 (by have := hl; omega) (Nat.le_trans hbs hB.size) ?_
             intro v2 W2 hO hb_ hg ho
             rw [d22]
             replace hP := keep_grown2 hP hg
             have e2 : v2.ownBlock = u2.ownBlock ∨ ∃ g, v2.ownBlock = some g ∧ W0.heap.size ≤ g := ho.imp id (fun h => ⟨_, h, hB.size⟩)
             replace hB := hB.trans hb_
             have hO0 := O0.grown hg (fun k hk e => D02 k hk e)
             have hD02 := dist_sym (dist_app (dist_sym D02) ho (fun k hk => (O0.lt k hk).2))
             have hO1 := O1.grown hg (fun k hk e => D12 k hk e)
             have hD12 := dist_sym (dist_app (dist_sym D12) ho (fun k hk => (O1.lt k hk).2))
             clear O0 O1 O2 C2 D02 D12
             have O2 := hO
             have O0 := hO0; have D02 := hD02
             have O1 := hO1; have D12 := hD12
             clear hO ho hb_ hg hO0 hD02 hO1 hD12
             refine hK.out _ _ (hS _ hB hP) (fun sS_ => ?_)
             clear sS_
             clear hK K W
             obtain ⟨W, hW⟩ : ∃ W : World, W = W2 := ⟨_, rfl⟩
             subst hW
             rw [put_comm (s := 109) (t := 96) (by decide)]
             rw [put_comm (s := 109) (t := 111) (by decide)]
             rw [put_comm (s := 109) (t := 103) (by decide)]
             rw [put_comm (s := 102) (t := 96) (by decide)]
             rw [put_comm (s := 102) (t := 111) (by decide)]
             exact hend _ _ _ _ _ _ _ hB O0 O1 O2 D01 D02 D12 e0 e1 e2 hP
   · rw [← d21]
     refine step_build (w21 _) o21 x2 ((eput_ne _ 95 108 _ (by decide)).trans hx2) ?_
     rw [d21]
     have hb_ := below_alloc (Below.refl W.heap.size W) (.cells #[.int .i64 x2] 3)
     replace hP := keep_below hP hb_
     replace hB := hB.trans (hb_.mono (Nat.le_trans hbs hB.size))
     have C2 := one_cell W x2 3
     have N20 : ∀ k, u0.ownBlock = some k → k ≠ W.heap.size := fun k hk => by have := (O0.lt k hk).2; omega
     have N21 : ∀ k, u1.ownBlock = some k → k ≠ W.heap.size := fun k hk => by have := (O1.lt k hk).2; omega
     have N22 : ∀ k, u2.ownBlock = some k → k ≠ W.heap.size := fun k hk => by have := (O2.lt k hk).2; omega
     replace C0 := fun j u hu => pw_cell_below hb_ (C0 j u hu)
     replace O0 := O0.below hb_
     replace O1 := O1.below hb_
     replace O2 := O2.below hb_
     refine hK.out _ _ (hS _ hB hP) (fun sS_ => ?_)
     clear sS_
     clear hK K hb_
     obtain ⟨s2, hs2⟩ : ∃ g, g = W.heap.size := ⟨_, rfl⟩
     rw [← hs2] at C2 N20 N21 N22 ⊢
     clear hs2
     generalize W.alloc (.cells #[.int .i64 x2] 3) = W at hB hP O0 O1 O2 C0 C2 ⊢
     refine two_ (i := 8) (j := 14) (Ni := some 96) (Nj := some 102) #[true, true, true, true, true, true, true, true, true, true, true, true, true, true, false, false, true, true, true, true, true, true, false, false, false, false, false, false, false] #[true, true, true, true, true, true, true, true, false, true, true, true, true, true, true, false, true, true, true, true, true, true, false, false, false, false, false, false, false] h8 h14 d8 d14 tr16_tab (by kernel_rfl) (by decide) (by decide) (fun K hK => ?_) (fun K hK => ?_)
     · rw [← d8]
       refine step_append_OwnI (w8 _) 22 und22 (.tmp 93) (.tmp 95) o8 base u0 r0 [x0] (((eput_ne _ 109 93 _ (by decide)).trans (eput_ne _ 95 93 _ (by decide))).trans hr0) O0 ⟨s0, 0, none⟩ 1 1 ((eput_ne _ 109 95 _ (by decide)).trans (eput_same _ 95 _ (by (try simp only [size_put]); rw [hA]; decide))) rfl C0 (by have := hl; omega) (Nat.le_trans hbs hB.size) ?_
       intro v0 W2 hO hb_ hg ho
       rw [d8]
       replace hP := keep_grown0 hP hg
       have e0 : v0.ownBlock = u0.ownBlock ∨ ∃ g, v0.ownBlock = some g ∧ W0.heap.size ≤ g := ho.imp id (fun h => ⟨_, h, hB.size⟩)
       replace hB := hB.trans hb_
       have hO1 := O1.grown hg (fun k hk e => dist_sym D01 k hk e)
       have hD01 := dist_app D01 ho (fun k hk => (O1.lt k hk).2)
       have hO2 := O2.grown hg (fun k hk e => dist_sym D02 k hk e)
       have hD02 := dist_app D02 ho (fun k hk => (O2.lt k hk).2)
       replace C2 := fun j u hu => cell_grown hg (C2 j u hu) (fun e => by rw [add_blk0] at e; exact N20 _ e.symm rfl)
       clear O0 O1 O2 C0 D01 D02
       have O0 := hO
       have O1 := hO1; have D01 := hD01
       have O2 := hO2; have D02 := hD02
       clear hO ho hb_ hg hO1 hD01 hO2 hD02
       refine hK.out _ _ (hS _ hB hP) (fun sS_ => ?_)
       clear sS_
       clear hK K W
       obtain ⟨W, hW⟩ : ∃ W : World, W = W2 := ⟨_, rfl⟩
       subst hW
       refine take_ (i := 23) (N := some 111) (v := .pointer (some ⟨g12, K0, none⟩)) #[true, true, true, true, true, true, true, true, true, true, true, true, true, true, false, false, true, true, true, true, true, true, false, true, false, false, false, false, false] h23 d23 (take_ofW tr16_tab tr16_bits (by kernel_rfl)) (fun c a w h => hQ c a w _ (by rw [← d23]; exact h)) (Or.inl ⟨w23 _, fun w' _ => step_index o23 ((((eput_ne _ 96 12 _ (by decide)).trans (eput_ne _ 109 12 _ (by decide))).trans (eput_ne _ 95 12 _ (by decide))).trans h12) ((((eput_ne _ 96 88 _ (by decide)).trans (eput_ne _ 109 88 _ (by decide))).trans (eput_ne _ 95 88 _ (by decide))).trans h88) hK0⟩) (hS _ hB hP) rfl ?_
       refine one_ (i := 14) (N := some 102) #[true, true, true, true, true, true, true, true, true, true, true, true, true, true, true, false, true, true, true, true, true, true, false, true, false, false, false, false, false] h14 d14 (one_of tr16_tab (by kernel_rfl)) (by decide) (fun K hK => ?_)
       · rw [← d14]
         refine step_build (w14 _) o14 x1 (((((eput_ne _ 111 101 _ (by decide)).trans (eput_ne _ 96 101 _ (by decide))).trans (eput_ne _ 109 101 _ (by decide))).trans (eput_ne _ 95 101 _ (by decide))).trans hx1) ?_
         rw [d14]
         have hb_ := below_alloc (Below.refl W.heap.size W) (.cells #[.int .i64 x1] 3)
         replace hP := keep_below hP hb_
         replace hB := hB.trans (hb_.mono (Nat.le_trans hbs hB.size))
         have C1 := one_cell W x1 3
         have N11 : ∀ k, u1.ownBlock = some k → k ≠ W.heap.size := fun k hk => by have := (O1.lt k hk).2; omega
         have N12 : ∀ k, u2.ownBlock = some k → k ≠ W.heap.size := fun k hk => by have := (O2.lt k hk).2; omega
         replace C2 := fun j u hu => pw_cell_below hb_ (C2 j u hu)
         replace O0 := O0.below hb_
         replace O1 := O1.below hb_
         replace O2 := O2.below hb_
         refine hK.out _ _ (hS _ hB hP) (fun sS_ => ?_)
         clear sS_
         clear hK K hb_
         obtain ⟨s1, hs1⟩ : ∃ g, g = W.heap.size := ⟨_, rfl⟩
         rw [← hs1] at C1 N11 N12 ⊢
         clear hs1
         generalize W.alloc (.cells #[.int .i64 x1] 3) = W at hB hP O0 O1 O2 C1 C2 ⊢
         refine one_ (i := 15) (N := some 103) #[true, true, true, true, true, true, true, true, true, true, true, true, true, true, true, true, true, true, true, true, true, true, false, true, false, false, false, false, false] h15 d15 (one_of tr16_tab (by kernel_rfl)) (by decide) (fun K hK => ?_)
         · rw [← d15]
           refine step_append_OwnI (w15 _) 22 und22 (.tmp 99) (.tmp 102) o15 base u1 r1 [x1] ((((((eput_ne _ 102 99 _ (by decide)).trans (eput_ne _ 111 99 _ (by decide))).trans (eput_ne _ 96 99 _ (by decide))).trans (eput_ne _ 109 99 _ (by decide))).trans (eput_ne _ 95 99 _ (by decide))).trans hr1) O1 ⟨s1, 0, none⟩ 1 1 (eput_same _ 102 _ (by (try simp only [size_put]); rw [hA]; decide)) rfl C1 (by have := hl; omega) (Nat.le_trans hbs hB.size) ?_
           intro v1 W2 hO hb_ hg ho
           rw [d15]
           replace hP := keep_grown1 hP hg
           have e1 : v1.ownBlock = u1.ownBlock ∨ ∃ g, v1.ownBlock = some g ∧ W0.heap.size ≤ g := ho.imp id (fun h => ⟨_, h, hB.size⟩)
           replace hB := hB.trans hb_
           have hO0 := O0.grown hg (fun k hk e => D01 k hk e)
           have hD01 := dist_sym (dist_app (dist_sym D01) ho (fun k hk => (O0.lt k hk).2))
           have hO2 := O2.grown hg (fun k hk e => dist_sym D12 k hk e)
           have hD12 := dist_app D12 ho (fun k hk => (O2.lt k hk).2)
           replace C2 := fun j u hu => cell_grown hg (C2 j u hu) (fun e => by rw [add_blk0] at e; exact N21 _ e.symm rfl)
           clear O0 O1 O2 C1 D01 D12
           have O1 := hO
           have O0 := hO0; have D01 := hD01
           have O2 := hO2; have D12 := hD12
           clear hO ho hb_ hg hO0 hD01 hO2 hD12
           refine hK.out _ _ (hS _ hB hP) (fun sS_ => ?_)
           clear sS_
           clear hK K W
           obtain ⟨W, hW⟩ : ∃ W : World, W = W2 := ⟨_, rfl⟩
           subst hW
           refine one_ (i := 22) (N := some 110) #[true, true, true, true, true, true, true, true, true, true, true, true, true, true, true, true, true, true, true, true, true, true, true, true, false, false, false, false, false] h22 d22 (one_of tr16_tab (by kernel_rfl)) (by decide) (fun K hK => ?_)
           · rw [← d22]
             refine step_append_OwnI (w22 _) 22 und22 (.tmp 106) (.tmp 109) o22 base u2 r2 [x2] (((((((eput_ne _ 103 106 _ (by decide)).trans (eput_ne _ 102 106 _ (by decide))).trans (eput_ne _ 111 106 _ (by decide))).trans (eput_ne _ 96 106 _ (by decide))).trans (eput_ne _ 109 106 _ (by decide))).trans (eput_ne _ 95 106 _ (by decide))).trans hr2) O2 ⟨s2, 0, none⟩ 1 1 ((eput_ne _ 103 109 _ (by decide)).trans ((eput_ne _ 102 109 _ (by decide)).trans ((eput_ne _ 111 109 _ (by decide)).trans ((eput_ne _ 96 109 _ (by decide)).trans (eput_same _ 109 _ (by (try simp only [size_put]); rw [hA]; decide)))))) rfl C2 (by have := hl; omega) (Nat.le_trans hbs hB.size) ?_
             intro v2 W2 hO hb_ hg ho
             rw [d22]
             replace hP := keep_grown2 hP hg
             have e2 : v2.ownBlock = u2.ownBlock ∨ ∃ g, v2.ownBlock = some g ∧ W0.heap.size ≤ g := ho.imp id (fun h => ⟨_, h, hB.size⟩)
             replace hB := hB.trans hb_
             have hO0 := O0.grown hg (fun k hk e => D02 k hk e)
             have hD02 := dist_sym (dist_app (dist_sym D02) ho (fun k hk => (O0.lt k hk).2))
             have hO1 := O1.grown hg (fun k hk e => D12 k hk e)
             have hD12 := dist_sym (dist_app (dist_sym D12) ho (fun k hk => (O1.lt k hk).2))
             clear O0 O1 O2 C2 D02 D12
             have O2 := hO
             have O0 := hO0; have D02 := hD02
             have O1 := hO1; have D12 := hD12
             clear hO ho hb_ hg hO0 hD02 hO1 hD12
             refine hK.out _ _ (hS _ hB hP) (fun sS_ => ?_)
             clear sS_
             clear hK K W
             obtain ⟨W, hW⟩ : ∃ W : World, W = W2 := ⟨_, rfl⟩
             subst hW
             rw [put_comm (s := 109) (t := 96) (by decide)]
             rw [put_comm (s := 109) (t := 111) (by decide)]
             rw [put_comm (s := 109) (t := 102) (by decide)]
             rw [put_comm (s := 109) (t := 103) (by decide)]
             exact hend _ _ _ _ _ _ _ hB O0 O1 O2 D01 D02 D12 e0 e1 e2 hP
     · rw [← d14]
       refine step_build (w14 _) o14 x1 (((eput_ne _ 109 101 _ (by decide)).trans (eput_ne _ 95 101 _ (by decide))).trans hx1) ?_
       rw [d14]
       have hb_ := below_alloc (Below.refl W.heap.size W) (.cells #[.int .i64 x1] 3)
       replace hP := keep_below hP hb_
       replace hB := hB.trans (hb_.mono (Nat.le_trans hbs hB.size))
       have C1 := one_cell W x1 3
       have N10 : ∀ k, u0.ownBlock = some k → k ≠ W.heap.size := fun k hk => by have := (O0.lt k hk).2; omega
       have N11 : ∀ k, u1.ownBlock = some k → k ≠ W.heap.size := fun k hk => by have := (O1.lt k hk).2; omega
       have N12 : ∀ k, u2.ownBlock = some k → k ≠ W.heap.size := fun k hk => by have := (O2.lt k hk).2; omega
       replace C0 := fun j u hu => pw_cell_below hb_ (C0 j u hu)
       replace C2 := fun j u hu => pw_cell_below hb_ (C2 j u hu)
       replace O0 := O0.below hb_
       replace O1 := O1.below hb_
       replace O2 := O2.below hb_
       refine hK.out _ _ (hS _ hB hP) (fun sS_ => ?_)
       clear sS_
       clear hK K hb_
       obtain ⟨s1, hs1⟩ : ∃ g, g = W.heap.size := ⟨_, rfl⟩
       rw [← hs1] at C1 N10 N11 N12 ⊢
       clear hs1
       generalize W.alloc (.cells #[.int .i64 x1] 3) = W at hB hP O0 O1 O2 C0 C1 C2 ⊢
       refine one_ (i := 8) (N := some 96) #[true, true, true, true, true, true, true, true, true, true, true, true, true, true, true, false, true, true, true, true, true, true, false, false, false, false, false, false, false] h8 d8 (one_of tr16_tab (by kernel_rfl)) (by decide) (fun K hK => ?_)
       · rw [← d8]
         refine step_append_OwnI (w8 _) 22 und22 (.tmp 93) (.tmp 95) o8 base u0 r0 [x0] ((((eput_ne _ 102 93 _ (by decide)).trans (eput_ne _ 109 93 _ (by decide))).trans (eput_ne _ 95 93 _ (by decide))).trans hr0) O0 ⟨s0, 0, none⟩ 1 1 ((eput_ne _ 102 95 _ (by decide)).trans ((eput_ne _ 109 95 _ (by decide)).trans (eput_same _ 95 _ (by (try simp only [size_put]); rw [hA]; decide)))) rfl C0 (by have := hl; omega) (Nat.le_trans hbs hB.size) ?_
         intro v0 W2 hO hb_ hg ho
         rw [d8]
         replace hP := keep_grown0 hP hg
         have e0 : v0.ownBlock = u0.ownBlock ∨ ∃ g, v0.ownBlock = some g ∧ W0.heap.size ≤ g := ho.imp id (fun h => ⟨_, h, hB.size⟩)
         replace hB := hB.trans hb_
         have hO1 := O1.grown hg (fun k hk e => dist_sym D01 k hk e)
         have hD01 := dist_app D01 ho (fun k hk => (O1.lt k hk).2)
         have hO2 := O2.grown hg (fun k hk e => dist_sym D02 k hk e)
         have hD02 := dist_app D02 ho (fun k hk => (O2.lt k hk).2)
         replace C1 := fun j u hu => cell_grown hg (C1 j u hu) (fun e => by rw [add_blk0] at e; exact N10 _ e.symm rfl)
         replace C2 := fun j u hu => cell_grown hg (C2 j u hu) (fun e => by rw [add_blk0] at e; exact N20 _ e.symm rfl)
         clear O0 O1 O2 C0 D01 D02
         have O0 := hO
         have O1 := hO1; have D01 := hD01
         have O2 := hO2; have D02 := hD02
         clear hO ho hb_ hg hO1 hD01 hO2 hD02
         refine hK.out _ _ (hS _ hB hP) (fun sS_ => ?_)
         clear sS_
         clear hK K W
         obtain ⟨W, hW⟩ : ∃ W : World, W = W2 := ⟨_, rfl⟩
         subst hW
         refine take_ (i := 23) (N := some 111) (v := .pointer (some ⟨g12, K0, none⟩)) #[true, true, true, true, true, true, true, true, true, true, true, true, true, true, true, false, true, true, true, true, true, true, false, true, false, false, false, false, false] h23 d23 (take_ofW tr16_tab tr16_bits (by kernel_rfl)) (fun c a w h => hQ c a w _ (by rw [← d23]; exact h)) (Or.inl ⟨w23 _, fun w' _ => step_index o23 (((((eput_ne _ 96 12 _ (by decide)).trans (eput_ne _ 102 12 _ (by decide))).trans (eput_ne _ 109 12 _ (by decide))).trans (eput_ne _ 95 12 _ (by decide))).trans h12) (((((eput_ne _ 96 88 _ (by decide)).trans (eput_ne _ 102 88 _ (by decide))).trans (eput_ne _ 109 88 _ (by decide))).trans (eput_ne _ 95 88 _ (by decide))).trans h88) hK0⟩) (hS _ hB hP) rfl ?_
         refine one_ (i := 15) (N := some 103) #[true, true, true, true, true, true, true, true, true, true, true, true, true, true, true, true, true, true, true, true, true, true, false, true, false, false, false, false, false] h15 d15 (one_of tr16_tab (by kernel_rfl)) (by decide) (fun K hK => ?_)
         · rw [← d15]
           refine step_append_OwnI (w15 _) 22 und22 (.tmp 99) (.tmp 102) o15 base u1 r1 [x1] ((((((eput_ne _ 111 99 _ (by decide)).trans (eput_ne _ 96 99 _ (by decide))).trans (eput_ne _ 102 99 _ (by decide))).trans (eput_ne _ 109 99 _ (by decide))).trans (eput_ne _ 95 99 _ (by decide))).trans hr1) O1 ⟨s1, 0, none⟩ 1 1 ((eput_ne _ 111 102 _ (by decide)).trans ((eput_ne _ 96 102 _ (by decide)).trans (eput_same _ 102 _ (by (try simp only [size_put]); rw [hA]; decide)))) rfl C1 (by have := hl; omega) (Nat.le_trans hbs hB.size) ?_
           intro v1 W2 hO hb_ hg ho
           rw [d15]
           replace hP := keep_grown1 hP hg
           have e1 : v1.ownBlock = u1.ownBlock ∨ ∃ g, v1.ownBlock = some g ∧ W0.heap.size ≤ g := ho.imp id (fun h => ⟨_, h, hB.size⟩)
           replace hB := hB.trans hb_
           have hO0 := O0.grown hg (fun k hk e => D01 k hk e)
           have hD01 := dist_sym (dist_app (dist_sym D01) ho (fun k hk => (O0.lt k hk).2))
           have hO2 := O2.grown hg (fun k hk e => dist_sym D12 k hk e)
           have hD12 := dist_app D12 ho (fun k hk => (O2.lt k hk).2)
           replace C2 := fun j u hu => cell_grown hg (C2 j u hu) (fun e => by rw [add_blk0] at e; exact N21 _ e.symm rfl)
           clear O0 O1 O2 C1 D01 D12
           have O1 := hO
           have O0 := hO0; have D01 := hD01
           have O2 := hO2; have D12 := hD12
           clear hO ho hb_ hg hO0 hD01 hO2 hD12
           refine hK.out _ _ (hS _ hB hP) (fun sS_ => ?_)
           clear sS_
           clear hK K W
           obtain ⟨W, hW⟩ : ∃ W : World, W = W2 := ⟨_, rfl⟩
           subst hW
           refine one_ (i := 22) (N := some 110) #[true, true, true, true, true, true, true, true, true, true, true, true, true, true, true, true, true, true, true, true, true, true, true, true, false, false, false, false, false] h22 d22 (one_of tr16_tab (by kernel_rfl)) (by decide) (fun K hK => ?_)
           · rw [← d22]
             refine step_append_OwnI (w22 _) 22 und22 (.tmp 106) (.tmp 109) o22 base u2 r2 [x2] (((((((eput_ne _ 103 106 _ (by decide)).trans (eput_ne _ 111 106 _ (by decide))).trans (eput_ne _ 96 106 _ (by decide))).trans (eput_ne _ 102 106 _ (by decide))).trans (eput_ne _ 109 106 _ (by decide))).trans (eput_ne _ 95 106 _ (by decide))).trans hr2) O2 ⟨s2, 0, none⟩ 1 1 ((eput_ne _ 103 109 _ (by decide)).trans ((eput_ne _ 111 109 _ (by decide)).trans ((eput_ne _ 96 109 _ (by decide)).trans ((eput_ne _ 102 109 _ (by decide)).trans (eput_same _ 109 _ (by (try simp only [size_put]); rw [hA]; decide)))))) rfl C2 (by have := hl; omega) (Nat.le_trans hbs hB.size) ?_
             intro v2 W2 hO hb_ hg ho
             rw [d22]
             replace hP := keep_grown2 hP hg
             have e2 : v2.ownBlock = u2.ownBlock ∨ ∃ g, v2.ownBlock = some g ∧ W0.heap.size ≤ g := ho.imp id (fun h => ⟨_, h, hB.size⟩)
             replace hB := hB.trans hb_
             have hO0 := O0.grown hg (fun k hk e => D02 k hk e)
             have hD02 := dist_sym (dist_app (dist_sym D02) ho (fun k hk => (O0.lt k hk).2))
             have hO1 := O1.grown hg (fun k hk e => D12 k hk e)
             have hD12 := dist_sym (dist_app (dist_sym D12) ho (fun k hk => (O1.lt k hk).2))
             clear O0 O1 O2 C2 D02 D12
             have O2 := hO
             have O0 := hO0; have D02 := hD02
             have O1 := hO1; have D12 := hD12
             clear hO ho hb_ hg hO0 hD02 hO1 hD12
             refine hK.out _ _ (hS _ hB hP) (fun sS_ => ?_)
             clear sS_
             clear hK K W
             obtain ⟨W, hW⟩ : ∃ W : World, W = W2 := ⟨_, rfl⟩
             subst hW
             rw [put_comm (s := 109) (t := 102) (by decide)]
             rw [put_comm (s := 109) (t := 96) (by decide)]
             rw [put_comm (s := 109) (t := 111) (by decide)]
             rw [put_comm (s := 109) (t := 103) (by decide)]
             rw [put_comm (s := 102) (t := 96) (by decide)]
             rw [put_comm (s := 102) (t := 111) (by decide)]
             exact hend _ _ _ _ _ _ _ hB O0 O1 O2 D01 D02 D12 e0 e1 e2 hP
 · rw [← d14]
   refine step_build (w14 _) o14 x1 (rfl.trans hx1) ?_
   rw [d14]
   have hb_ := below_alloc (Below.refl W.heap.size W) (.cells #[.int .i64 x1] 3)
   replace hP := keep_below hP hb_
   replace hB := hB.trans (hb_.mono (Nat.le_trans hbs hB.size))
   have C1 := one_cell W x1 3
   have N10 : ∀ k, u0.ownBlock = some k → k ≠ W.heap.size := fun k hk => by have := (O0.lt k hk).2; omega
   have N11 : ∀ k, u1.ownBlock = some k → k ≠ W.heap.size := fun k hk => by have := (O1.lt k hk).2; omega
   have N12 : ∀ k, u2.ownBlock = some k → k ≠ W.heap.size := fun k hk => by have := (O2.lt k hk).2; omega
   replace O0 := O0.below hb_
   replace O1 := O1.below hb_
   replace O2 := O2.below hb_
   refine hK.out _ _ (hS _ hB hP) (fun sS_ => ?_)
   clear sS_
   clear hK K hb_
   obtain ⟨s1, hs1⟩ : ∃ g, g = W.heap.size := ⟨_, rfl⟩
   rw [← hs1] at C1 N10 N11 N12 ⊢
   clear hs1
   generalize W.alloc (.cells #[.int .i64 x1] 3) = W at hB hP O0 O1 O2 C1 ⊢
   refine two_ (i := 7) (j := 21) (Ni := some 95) (Nj := some 109) #[true, true, true, true, true, true, true, true, false, true, true, true, true, true, true, false, true, true, true, true, true, false, false, false, false, false, false, false, false] #[true, true, true, true, true, true, true, false, false, true, true, true, true, true, true, false, true, true, true, true, true, true, false, false, false, false, false, false, false] h7 h21 d7 d21 tr16_tab (by kernel_rfl) (by decide) (by decide) (fun K hK => ?_) (fun K hK => ?_)
   · rw [← d7]
     refine step_build (w7 _) o7 x0 ((eput_ne _ 102 94 _ (by decide)).trans hx0) ?_
     rw [d7]
     have hb_ := below_alloc (Below.refl W.heap.size W) (.cells #[.int .i64 x0] 3)
     replace hP := keep_below hP hb_
     replace hB := hB.trans (hb_.mono (Nat.le_trans hbs hB.size))
     have C0 := one_cell W x0 3
     have N00 : ∀ k, u0.ownBlock = some k → k ≠ W.heap.size := fun k hk => by have := (O0.lt k hk).2; omega
     have N01 : ∀ k, u1.ownBlock = some k → k ≠ W.heap.size := fun k hk => by have := (O1.lt k hk).2; omega
     have N02 : ∀ k, u2.ownBlock = some k → k ≠ W.heap.size := fun k hk => by have := (O2.lt k hk).2; omega
     replace C1 := fun j u hu => pw_cell_below hb_ (C1 j u hu)
     replace O0 := O0.below hb_
     replace O1 := O1.below hb_
     replace O2 := O2.below hb_
     refine hK.out _ _ (hS _ hB hP) (fun sS_ => ?_)
     clear sS_
     clear hK K hb_
     obtain ⟨s0, hs0⟩ : ∃ g, g = W.heap.size := ⟨_, rfl⟩
     rw [← hs0] at C0 N00 N01 N02 ⊢
     clear hs0
     generalize W.alloc (.cells #[.int .i64 x0] 3) = W at hB hP O0 O1 O2 C0 C1 ⊢
     refine two_ (i := 8) (j := 21) (Ni := some 96) (Nj := some 109) #[true, true, true, true, true, true, true, true, true, true, true, true, true, true, true, false, true, true, true, true, true, false, false, false, false, false, false, false, false] #[true, true, true, true, true, true, true, true, false, true, true, true, true, true, true, false, true, true, true, true, true, true, false, false, false, false, false, false, false] h8 h21 d8 d21 tr16_tab (by kernel_rfl) (by decide) (by decide) (fun K hK => ?_) (fun K hK => ?_)
     · rw [← d8]
       refine step_append_OwnI (w8 _) 22 und22 (.tmp 93) (.tmp 95) o8 base u0 r0 [x0] (((eput_ne _ 95 93 _ (by decide)).trans (eput_ne _ 102 93 _ (by decide))).trans hr0) O0 ⟨s0, 0, none⟩ 1 1 (eput_same _ 95 _ (by (try simp only [size_put]); rw [hA]; decide)) rfl C0 (by have := hl; omega) (Nat.le_trans hbs hB.size) ?_
       intro v0 W2 hO hb_ hg ho
       rw [d8]
       replace hP := keep_grown0 hP hg
       have e0 : v0.ownBlock = u0.ownBlock ∨ ∃ g, v0.ownBlock = some g ∧ W0.heap.size ≤ g := ho.imp id (fun h => ⟨_, h, hB.size⟩)
       replace hB := hB.trans hb_
       have hO1 := O1.grown hg (fun k hk e => dist_sym D01 k hk e)
       have hD01 := dist_app D01 ho (fun k hk => (O1.lt k hk).2)
       have hO2 := O2.grown hg (fun k hk e => dist_sym D02 k hk e)
       have hD02 := dist_app D02 ho (fun k hk => (O2.lt k hk).2)
       replace C1 := fun j u hu => cell_grown hg (C1 j u hu) (fun e => by rw [add_blk0] at e; exact N10 _ e.symm rfl)
       clear O0 O1 O2 C0 D01 D02
       have O0 := hO
       have O1 := hO1; have D01 := hD01
       have O2 := hO2; have D02 := hD02
       clear hO ho hb_ hg hO1 hD01 hO2 hD02
       refine hK.out _ _ (hS _ hB hP) (fun sS_ => ?_)
       clear sS_
       clear hK K W
       obtain ⟨W, hW⟩ : ∃ W : World, W = W2 := ⟨_, rfl⟩
       subst hW
       refine take_ (i := 23) (N := some 111) (v := .pointer (some ⟨g12, K0, none⟩)) #[true, true, true, true, true, true, true, true, true, true, true, true, true, true, true, false, true, true, true, true, true, false, false, true, false, false, false, false, false] h23 d23 (take_ofW tr16_tab tr16_bits (by kernel_rfl)) (fun c a w h => hQ c a w _ (by rw [← d23]; exact h)) (Or.inl ⟨w23 _, fun w' _ => step_index o23 ((((eput_ne _ 96 12 _ (by decide)).trans (eput_ne _ 95 12 _ (by decide))).trans (eput_ne _ 102 12 _ (by decide))).trans h12) ((((eput_ne _ 96 88 _ (by decide)).trans (eput_ne _ 95 88 _ (by decide))).trans (eput_ne _ 102 88 _ (by decide))).trans h88) hK0⟩) (hS _ hB hP) rfl ?_
       refine two_ (i := 15) (j := 21) (Ni := some 103) (Nj := some 109) #[true, true, true, true, true, true, true, true, true, true, true, true, true, true, true, true, true, true, true, true, true, false, false, true, false, false, false, false, false] #[true, true, true, true, true, true, true, true, true, true, true, true, true, true, true, false, true, true, true, true, true, true, false, true, false, false, false, false, false] h15 h21 d15 d21 tr16_tab (by kernel_rfl) (by decide) (by decide) (fun K hK => ?_) (fun K hK => ?_)
       · rw [← d15]
         refine step_append_OwnI (w15 _) 22 und22 (.tmp 99) (.tmp 102) o15 base u1 r1 [x1] (((((eput_ne _ 111 99 _ (by decide)).trans (eput_ne _ 96 99 _ (by decide))).trans (eput_ne _ 95 99 _ (by decide))).trans (eput_ne _ 102 99 _ (by decide))).trans hr1) O1 ⟨s1, 0, none⟩ 1 1 ((eput_ne _ 111 102 _ (by decide)).trans ((eput_ne _ 96 102 _ (by decide)).trans ((eput_ne _ 95 102 _ (by decide)).trans (eput_same _ 102 _ (by (try simp only [size_put]); rw [hA]; decide))))) rfl C1 (by have := hl; omega) (Nat.le_trans hbs hB.size) ?_
         intro v1 W2 hO hb_ hg ho
         rw [d15]
         replace hP := keep_grown1 hP hg
         have e1 : v1.ownBlock = u1.ownBlock ∨ ∃ g, v1.ownBlock = some g ∧ W0.heap.size ≤ g := ho.imp id (fun h => ⟨_, h, hB.size⟩)
         replace hB := hB.trans hb_
         have hO0 := O0.grown hg (fun k hk e => D01 k hk e)
         have hD01 := dist_sym (dist_app (dist_sym D01) ho (fun k hk => (O0.lt k hk).2))
         have hO2 := O2.grown hg (fun k hk e => dist_sym D12 k hk e)
         have hD12 := dist_app D12 ho (fun k hk => (O2.lt k hk).2)
         clear O0 O1 O2 C1 D01 D12
         have O1 := hO
         have O0 := hO0; have D01 := hD01
         have O2 := hO2; have D12 := hD12
         clear hO ho hb_ hg hO0 hD01 hO2 hD12
         refine hK.out _ _ (hS _ hB hP) (fun sS_ => ?_)
         clear sS_
         clear hK K W
         obtain ⟨W, hW⟩ : ∃ W : World, W = W2 := ⟨_, rfl⟩
         subst hW
         refine one_ (i := 21) (N := some 109) #[true, true, true, true, true, true, true, true, true, true, true, true, true, true, true, true, true, true, true, true, true, true, false, true, false, false, false, false, false] h21 d21 (one_of tr16_tab (by kernel_rfl)) (by decide) (fun K hK => ?_)
         · rw [← d21]
           refine step_build (w21 _) o21 x2 ((((((eput_ne _ 103 108 _ (by decide)).trans (eput_ne _ 111 108 _ (by decide))).trans (eput_ne _ 96 108 _ (by decide))).trans (eput_ne _ 95 108 _ (by decide))).trans (eput_ne _ 102 108 _ (by decide))).trans hx2) ?_
           rw [d21]
           have hb_ := below_alloc (Below.refl W.heap.size W) (.cells #[.int .i64 x2] 3)
           replace hP := keep_below hP hb_
           replace hB := hB.trans (hb_.mono (Nat.le_trans hbs hB.size))
           have C2 := one_cell W x2 3
           have N22 : ∀ k, u2.ownBlock = some k → k ≠ W.heap.size := fun k hk => by have := (O2.lt k hk).2; omega
           replace O0 := O0.below hb_
           replace O1 := O1.below hb_
           replace O2 := O2.below hb_
           refine hK.out _ _ (hS _ hB hP) (fun sS_ => ?_)
           clear sS_
           clear hK K hb_
           obtain ⟨s2, hs2⟩ : ∃ g, g = W.heap.size := ⟨_, rfl⟩
           rw [← hs2] at C2 N22 ⊢
           clear hs2
           generalize W.alloc (.cells #[.int .i64 x2] 3) = W at hB hP O0 O1 O2 C2 ⊢
           refine one_ (i := 22) (N := some 110) #[true, true, true, true, true, true, true, true, true, true, true, true, true, true, true, true, true, true, true, true, true, true, true, true, false, false, false, false, false] h22 d22 (one_of tr16_tab (by kernel_rfl)) (by decide) (fun K hK => ?_)
           · rw [← d22]
             refine step_append_OwnI (w22 _) 22 und22 (.tmp 106) (.tmp 109) o22 base u2 r2 [x2] (((((((eput_ne _ 109 106 _ (by decide)).trans (eput_ne _ 103 106 _ (by decide))).trans (eput_ne _ 111 106 _ (by decide))).trans (eput_ne _ 96 106 _ (by decide))).trans (eput_ne _ 95 106 _ (by decide))).trans (eput_ne _ 102 106 _ (by decide))).trans hr2) O2 ⟨s2, 0, none⟩ 1 1 (eput_same _ 109 _ (by (try simp only [size_put]); rw [hA]; decide)) rfl C2 (by have := hl; omega) (Nat.le_trans hbs hB.size) ?_
             intro v2 W2 hO hb_ hg ho
             rw [d22]
             replace hP := keep_grown2 hP hg
             have e2 : v2.ownBlock = u2.ownBlock ∨ ∃ g, v2.ownBlock = some g ∧ W0.heap.size ≤ g := ho.imp id (fun h => ⟨_, h, hB.size⟩)
             replace hB := hB.trans hb_
             have hO0 := O0.grown hg (fun k hk e => D02 k hk e)
             have hD02 := dist_sym (dist_app (dist_sym D02) ho (fun k hk => (O0.lt k hk).2))
             have hO1 := O1.grown hg (fun k hk e => D12 k hk e)
             have hD12 := dist_sym (dist_app (dist_sym D12) ho (fun k hk => (O1.lt k hk).2))
             clear O0 O1 O2 C2 D02 D12
             have O2 := hO
             have O0 := hO0; have D02 := hD02
             have O1 := hO1; have D12 := hD12
             clear hO ho hb_ hg hO0 hD02 hO1 hD12
             refine hK.out _ _ (hS _ hB hP) (fun sS_ => ?_)
             clear sS_
             clear hK K W
             obtain ⟨W, hW⟩ : ∃ W : World, W = W2 := ⟨_, rfl⟩
             subst hW
             rw [put_comm (s := 102) (t := 95) (by decide)]
             rw [put_comm (s := 102) (t := 96) (by decide)]
             rw [put_comm (s := 102) (t := 111) (by decide)]
             exact hend _ _ _ _ _ _ _ hB O0 O1 O2 D01 D02 D12 e0 e1 e2 hP
       · rw [← d21]
         refine step_build (w21 _) o21 x2 (((((eput_ne _ 111 108 _ (by decide)).trans (eput_ne _ 96 108 _ (by decide))).trans (eput_ne _ 95 108 _ (by decide))).trans (eput_ne _ 102 108 _ (by decide))).trans hx2) ?_
         rw [d21]
         have hb_ := below_alloc (Below.refl W.heap.size W) (.cells #[.int .i64 x2] 3)
         replace hP := keep_below hP hb_
         replace hB := hB.trans (hb_.mono (Nat.le_trans hbs hB.size))
         have C2 := one_cell W x2 3
         have N21 : ∀ k, u1.ownBlock = some k → k ≠ W.heap.size := fun k hk => by have := (O1.lt k hk).2; omega
         have N22 : ∀ k, u2.ownBlock = some k → k ≠ W.heap.size := fun k hk => by have := (O2.lt k hk).2; omega
         replace C1 := fun j u hu => pw_cell_below hb_ (C1 j u hu)
         replace O0 := O0.below hb_
         replace O1 := O1.below hb_
         replace O2 := O2.below hb_
         refine hK.out _ _ (hS _ hB hP) (fun sS_ => ?_)
         clear sS_
         clear hK K hb_
         obtain ⟨s2, hs2⟩ : ∃ g, g = W.heap.size := ⟨_, rfl⟩
         rw [← hs2] at C2 N21 N22 ⊢
         clear hs2
         generalize W.alloc (.cells #[.int .i64 x2] 3) = W at hB hP O0 O1 O2 C1 C2 ⊢
         refine one_ (i := 15) (N := some 103) #[true, true, true, true, true, true, true, true, true, true, true, true, true, true, true, true, true, true, true, true, true, true, false, true, false, false, false, false, false] h15 d15 (one_of tr16_tab (by kernel_rfl)) (by decide) (fun K hK => ?_)
         · rw [← d15]
           refine step_append_OwnI (w15 _) 22 und22 (.tmp 99) (.tmp 102) o15 base u1 r1 [x1] ((((((eput_ne _ 109 99 _ (by decide)).trans (eput_ne _ 111 99 _ (by decide))).trans (eput_ne _ 96 99 _ (by decide))).trans (eput_ne _ 95 99 _ (by decide))).trans (eput_ne _ 102 99 _ (by decide))).trans hr1) O1 ⟨s1, 0, none⟩ 1 1 ((eput_ne _ 109 102 _ (by decide)).trans ((eput_ne _ 111 102 _ (by decide)).trans ((eput_ne _ 96 102 _ (by decide)).trans ((eput_ne _ 95 102 _ (by decide)).trans (eput_same _ 102 _ (by (try simp only [size_put]); rw [hA]; decide)))))) rfl C1 (by have := hl; omega) (Nat.le_trans hbs hB.size) ?_
           intro v1 W2 hO hb_ hg ho
           rw [d15]
           replace hP := keep_grown1 hP hg
           have e1 : v1.ownBlock = u1.ownBlock ∨ ∃ g, v1.ownBlock = some g ∧ W0.heap.size ≤ g := ho.imp id (fun h => ⟨_, h, hB.size⟩)
           replace hB := hB.trans hb_
           have hO0 := O0.grown hg (fun k hk e => D01 k hk e)
           have hD01 := dist_sym (dist_app (dist_sym D01) ho (fun k hk => (O0.lt k hk).2))
           have hO2 := O2.grown hg (fun k hk e => dist_sym D12 k hk e)
           have hD12 := dist_app D12 ho (fun k hk => (O2.lt k hk).2)
           replace C2 := fun j u hu => cell_grown hg (C2 j u hu) (fun e => by rw [add_blk0] at e; exact N21 _ e.symm rfl)
           clear O0 O1 O2 C1 D01 D12
           have O1 := hO
           have O0 := hO0; have D01 := hD01
           have O2 := hO2; have D12 := hD12
           clear hO ho hb_ hg hO0 hD01 hO2 hD12
           refine hK.out _ _ (hS _ hB hP) (fun sS_ => ?_)
           clear sS_
           clear hK K W
           obtain ⟨W, hW⟩ : ∃ W : World, W = W2 := ⟨_, rfl⟩
           subst hW
           refine one_ (i := 22) (N := some 110) #[true, true, true, true, true, true, true, true, true, true, true, true, true, true, true, true, true, true, true, true, true, true, true, true, false, false, false, false, false] h22 d22 (one_of tr16_tab (by kernel_rfl)) (by decide) (fun K hK => ?_)
           · rw [← d22]
             refine step_append_OwnI (w22 _) 22 und22 (.tmp 106) (.tmp 109) o22 base u2 r2 [x2] (((((((eput_ne _ 103 106 _ (by decide)).trans (eput_ne _ 109 106 _ (by decide))).trans (eput_ne _ 111 106 _ (by decide))).trans (eput_ne _ 96 106 _ (by decide))).trans (eput_ne _ 95 106 _ (by decide))).trans (eput_ne _ 102 106 _ (by decide))).trans hr2) O2 ⟨s2, 0, none⟩ 1 1 ((eput_ne _ 103 109 _ (by decide)).trans (eput_same _ 109 _ (by (try simp only [size_put]); rw [hA]; decide))) rfl C2 (by have := hl; omega) (Nat.le_trans hbs hB.size) ?_
             intro v2 W2 hO hb_ hg ho
             rw [d22]
             replace hP := keep_grown2 hP hg
             have e2 : v2.ownBlock = u2.ownBlock ∨ ∃ g, v2.ownBlock = some g ∧ W0.heap.size ≤ g := ho.imp id (fun h => ⟨_, h, hB.size⟩)
             replace hB := hB.trans hb_
             have hO0 := O0.grown hg (fun k hk e => D02 k hk e)
             have hD02 := dist_sym (dist_app (dist_sym D02) ho (fun k hk => (O0.lt k hk).2))
             have hO1 := O1.grown hg (fun k hk e => D12 k hk e)
             have hD12 := dist_sym (dist_app (dist_sym D12) ho (fun k hk => (O1.lt k hk).2))
             clear O0 O1 O2 C2 D02 D12
             have O2 := hO
             have O0 := hO0; have D02 := hD02
             have O1 := hO1; have D12 := hD12
             clear hO ho hb_ hg hO0 hD02 hO1 hD12
             refine hK.out _ _ (hS _ hB hP) (fun sS_ => ?_)
             clear sS_
             clear hK K W
             obtain ⟨W, hW⟩ : ∃ W : World, W = W2 := ⟨_, rfl⟩
             subst hW
             rw [put_comm (s := 102) (t := 95) (by decide)]
             rw [put_comm (s := 102) (t := 96) (by decide)]
             rw [put_comm (s := 102) (t := 111) (by decide)]
             rw [put_comm (s := 109) (t := 103) (by decide)]
             exact hend _ _ _ _ _ _ _ hB O0 O1 O2 D01 D02 D12 e0 e1 e2 hP
     · rw [← d21]
       refine step_build (w21 _) o21 x2 (((eput_ne _ 95 108 _ (by decide)).trans (eput_ne _ 102 108 _ (by decide))).trans hx2) ?_
       rw [d21]
       have hb_ := below_alloc (Below.refl W.heap.size W) (.cells #[.int .i64 x2] 3)
       replace hP := keep_below hP hb_
       replace hB := hB.trans (hb_.mono (Nat.le_trans hbs hB.size))
       have C2 := one_cell W x2 3
       have N20 : ∀ k, u0.ownBlock = some k → k ≠ W.heap.size := fun k hk => by have := (O0.lt k hk).2; omega
       have N21 : ∀ k, u1.ownBlock = some k → k ≠ W.heap.size := fun k hk => by have := (O1.lt k hk).2; omega
       have N22 : ∀ k, u2.ownBlock = some k → k ≠ W.heap.size := fun k hk => by have := (O2.lt k hk).2; omega
       replace C0 := fun j u hu => pw_cell_below hb_ (C0 j u hu)
       replace C1 := fun j u hu => pw_cell_below hb_ (C1 j u hu)
       replace O0 := O0.below hb_
       replace O1 := O1.below hb_
       replace O2 := O2.below hb_
       refine hK.out _ _ (hS _ hB hP) (fun sS_ => ?_)
       clear sS_
       clear hK K hb_
       obtain ⟨s2, hs2⟩ : ∃ g, g = W.heap.size := ⟨_, rfl⟩
       rw [← hs2] at C2 N20 N21 N22 ⊢
       clear hs2
       generalize W.alloc (.cells #[.int .i64 x2] 3) = W at hB hP O0 O1 O2 C0 C1 C2 ⊢
       refine one_ (i := 8) (N := some 96) #[true, true, true, true, true, true, true, true, true, true, true, true, true, true, true, false, true, true, true, true, true, true, false, false, false, false, false, false, false] h8 d8 (one_of tr16_tab (by kernel_rfl)) (by decide) (fun K hK => ?_)
       · rw [← d8]
         refine step_append_OwnI (w8 _) 22 und22 (.tmp 93) (.tmp 95) o8 base u0 r0 [x0] ((((eput_ne _ 109 93 _ (by decide)).trans (eput_ne _ 95 93 _ (by decide))).trans (eput_ne _ 102 93 _ (by decide))).trans hr0) O0 ⟨s0, 0, none⟩ 1 1 ((eput_ne _ 109 95 _ (by decide)).trans (eput_same _ 95 _ (by (try simp only [size_put]); rw [hA]; decide))) rfl C0 (by have := hl; omega) (Nat.le_trans hbs hB.size) ?_
         intro v0 W2 hO hb_ hg ho
         rw [d8]
         replace hP := keep_grown0 hP hg
         have e0 : v0.ownBlock = u0.ownBlock ∨ ∃ g, v0.ownBlock = some g ∧ W0.heap.size ≤ g := ho.imp id (fun h => ⟨_, h, hB.size⟩)
         replace hB := hB.trans hb_
         have hO1 := O1.grown hg (fun k hk e => dist_sym D01 k hk e)
         have hD01 := dist_app D01 ho (fun k hk => (O1.lt k hk).2)
         have hO2 := O2.grown hg (fun k hk e => dist_sym D02 k hk e)
         have hD02 := dist_app D02 ho (fun k hk => (O2.lt k hk).2)
         replace C1 := fun j u hu => cell_grown hg (C1 j u hu) (fun e => by rw [add_blk0] at e; exact N10 _ e.symm rfl)
         replace C2 := fun j u hu => cell_grown hg (C2 j u hu) (fun e => by rw [add_blk0] at e; exact N20 _ e.symm rfl)
         clear O0 O1 O2 C0 D01 D02
         have O0 := hO
         have O1 := hO1; have D01 := hD01
         have O2 := hO2; have D02 := hD02
         clear hO ho hb_ hg hO1 hD01 hO2 hD02
         refine hK.out _ _ (hS _ hB hP) (fun sS_ => ?_)
         clear sS_
         clear hK K W
         obtain ⟨W, hW⟩ : ∃ W : World, W = W2 := ⟨_, rfl⟩
         subst hW
         refine take_ (i := 23) (N := some 111) (v := .pointer (some ⟨g12, K0, none⟩)) #[true, true, true, true, true, true, true, true, true, true, true, true, true, true, true, false, true, true, true, true, true, true, false, true, false, false, false, false, false] h23 d23 (take_ofW tr16_tab tr16_bits (by kernel_rfl)) (fun c a w h => hQ c a w _ (by rw [← d23]; exact h)) (Or.inl ⟨w23 _, fun w' _ => step_index o23 (((((eput_ne _ 96 12 _ (by decide)).trans (eput_ne _ 109 12 _ (by decide))).trans (eput_ne _ 95 12 _ (by decide))).trans (eput_ne _ 102 12 _ (by decide))).trans h12) (((((eput_ne _ 96 88 _ (by decide)).trans (eput_ne _ 109 88 _ (by decide))).trans (eput_ne _ 95 88 _ (by decide))).trans (eput_ne _ 102 88 _ (by decide))).trans h88) hK0⟩) (hS _ hB hP) rfl ?_
         refine one_ (i := 15) (N := some 103) #[true, true, true, true, true, true, true, true, true, true, true, true, true, true, true, true, true, true, true, true, true, true, false, true, false, false, false, false, false] h15 d15 (one_of tr16_tab (by kernel_rfl)) (by decide) (fun K hK => ?_)
         · rw [← d15]
           refine step_append_OwnI (w15 _) 22 und22 (.tmp 99) (.tmp 102) o15 base u1 r1 [x1] ((((((eput_ne _ 111 99 _ (by decide)).trans (eput_ne _ 96 99 _ (by decide))).trans (eput_ne _ 109 99 _ (by decide))).trans (eput_ne _ 95 99 _ (by decide))).trans (eput_ne _ 102 99 _ (by decide))).trans hr1) O1 ⟨s1, 0, none⟩ 1 1 ((eput_ne _ 111 102 _ (by decide)).trans ((eput_ne _ 96 102 _ (by decide)).trans ((eput_ne _ 109 102 _ (by decide)).trans ((eput_ne _ 95 102 _ (by decide)).trans (eput_same _ 102 _ (by (try simp only [size_put]); rw [hA]; decide)))))) rfl C1 (by have := hl; omega) (Nat.le_trans hbs hB.size) ?_
           intro v1 W2 hO hb_ hg ho
           rw [d15]
           replace hP := keep_grown1 hP hg
           have e1 : v1.ownBlock = u1.ownBlock ∨ ∃ g, v1.ownBlock = some g ∧ W0.heap.size ≤ g := ho.imp id (fun h => ⟨_, h, hB.size⟩)
           replace hB := hB.trans hb_
           have hO0 := O0.grown hg (fun k hk e => D01 k hk e)
           have hD01 := dist_sym (dist_app (dist_sym D01) ho (fun k hk => (O0.lt k hk).2))
           have hO2 := O2.grown hg (fun k hk e => dist_sym D12 k hk e)
           have hD12 := dist_app D12 ho (fun k hk => (O2.lt k hk).2)
           replace C2 := fun j u hu => cell_grown hg (C2 j u hu) (fun e => by rw [add_blk0] at e; exact N21 _ e.symm rfl)
           clear O0 O1 O2 C1 D01 D12
           have O1 := hO
           have O0 := hO0; have D01 := hD01
           have O2 := hO2; have D12 := hD12
           clear hO ho hb_ hg hO0 hD01 hO2 hD12
           refine hK.out _ _ (hS _ hB hP) (fun sS_ => ?_)
           clear sS_
           clear hK K W
           obtain ⟨W, hW⟩ : ∃ W : World, W = W2 := ⟨_, rfl⟩
           subst hW
           refine one_ (i := 22) (N := some 110) #[true, true, true, true, true, true, true, true, true, true, true, true, true, true, true, true, true, true, true, true, true, true, true, true, false, false, false, false, false] h22 d22 (one_of tr16_tab (by kernel_rfl)) (by decide) (fun K hK => ?_)
           · rw [← d22]
             refine step_append_OwnI (w22 _) 22 und22 (.tmp 106) (.tmp 109) o22 base u2 r2 [x2] (((((((eput_ne _ 103 106 _ (by decide)).trans (eput_ne _ 111 106 _ (by decide))).trans (eput_ne _ 96 106 _ (by decide))).trans (eput_ne _ 109 106 _ (by decide))).trans (eput_ne _ 95 106 _ (by decide))).trans (eput_ne _ 102 106 _ (by decide))).trans hr2) O2 ⟨s2, 0, none⟩ 1 1 ((eput_ne _ 103 109 _ (by decide)).trans ((eput_ne _ 111 109 _ (by decide)).trans ((eput_ne _ 96 109 _ (by decide)).trans (eput_same _ 109 _ (by (try simp only [size_put]); rw [hA]; decide))))) rfl C2 (by have := hl; omega) (Nat.le_trans hbs hB.size) ?_
             intro v2 W2 hO hb_ hg ho
             rw [d22]
             replace hP := keep_grown2 hP hg
             have e2 : v2.ownBlock = u2.ownBlock ∨ ∃ g, v2.ownBlock = some g ∧ W0.heap.size ≤ g := ho.imp id (fun h => ⟨_, h, hB.size⟩)
             replace hB := hB.trans hb_
             have hO0 := O0.grown hg (fun k hk e => D02 k hk e)
             have hD02 := dist_sym (dist_app (dist_sym D02) ho (fun k hk => (O0.lt k hk).2))
             have hO1 := O1.grown hg (fun k hk e => D12 k hk e)
             have hD12 := dist_sym (dist_app (dist_sym D12) ho (fun k hk => (O1.lt k hk).2))
             clear O0 O1 O2 C2 D02 D12
             have O2 := hO
             have O0 := hO0; have D02 := hD02
             have O1 := hO1; have D12 := hD12
             clear hO ho hb_ hg hO0 hD02 hO1 hD12
             refine hK.out _ _ (hS _ hB hP) (fun sS_ => ?_)
             clear sS_
             clear hK K W
             obtain ⟨W, hW⟩ : ∃ W : World, W = W2 := ⟨_, rfl⟩
             subst hW
             rw [put_comm (s := 102) (t := 95) (by decide)]
             rw [put_comm (s := 109) (t := 96) (by decide)]
             rw [put_comm (s := 109) (t := 111) (by decide)]
             rw [put_comm (s := 109) (t := 103) (by decide)]
             rw [put_comm (s := 102) (t := 96) (by decide)]
             rw [put_comm (s := 102) (t := 111) (by decide)]
             exact hend _ _ _ _ _ _ _ hB O0 O1 O2 D01 D02 D12 e0 e1 e2 hP
   · rw [← d21]
     refine step_build (w21 _) o21 x2 ((eput_ne _ 102 108 _ (by decide)).trans hx2) ?_
     rw [d21]
     have hb_ := below_alloc (Below.refl W.heap.size W) (.cells #[.int .i64 x2] 3)
     replace hP := keep_below hP hb_
     replace hB := hB.trans (hb_.mono (Nat.le_trans hbs hB.size))
     have C2 := one_cell W x2 3
     have N20 : ∀ k, u0.ownBlock = some k → k ≠ W.heap.size := fun k hk => by have := (O0.lt k hk).2; omega
     have N21 : ∀ k, u1.ownBlock = some k → k ≠ W.heap.size := fun k hk => by have := (O1.lt k hk).2; omega
     have N22 : ∀ k, u2.ownBlock = some k → k ≠ W.heap.size := fun k hk => by have := (O2.lt k hk).2; omega
     replace C1 := fun j u hu => pw_cell_below hb_ (C1 j u hu)
     replace O0 := O0.below hb_
     replace O1 := O1.below hb_
     replace O2 := O2.below hb_
     refine hK.out _ _ (hS _ hB hP) (fun sS_ => ?_)
     clear sS_
     clear hK K hb_
     obtain ⟨s2, hs2⟩ : ∃ g, g = W.heap.size := ⟨_, rfl⟩
     rw [← hs2] at C2 N20 N21 N22 ⊢
     clear hs2
     generalize W.alloc (.cells #[.int .i64 x2] 3) = W at hB hP O0 O1 O2 C1 C2 ⊢
     refine one_ (i := 7) (N := some 95) #[true, true, true, true, true, true, true, true, false, true, true, true, true, true, true, false, true, true, true, true, true, true, false, false, false, false, false, false, false] h7 d7 (one_of tr16_tab (by kernel_rfl)) (by decide) (fun K hK => ?_)
     · rw [← d7]
       refine step_build (w7 _) o7 x0 (((eput_ne _ 109 94 _ (by decide)).trans (eput_ne _ 102 94 _ (by decide))).trans hx0) ?_
       rw [d7]
       have hb_ := below_alloc (Below.refl W.heap.size W) (.cells #[.int .i64 x0] 3)
       replace hP := keep_below hP hb_
       replace hB := hB.trans (hb_.mono (Nat.le_trans hbs hB.size))
       have C0 := one_cell W x0 3
       have N00 : ∀ k, u0.ownBlock = some k → k ≠ W.heap.size := fun k hk => by have := (O0.lt k hk).2; omega
       have N01 : ∀ k, u1.ownBlock = some k → k ≠ W.heap.size := fun k hk => by have := (O1.lt k hk).2; omega
       have N02 : ∀ k, u2.ownBlock = some k → k ≠ W.heap.size := fun k hk => by have := (O2.lt k hk).2; omega
       replace C1 := fun j u hu => pw_cell_below hb_ (C1 j u hu)
       replace C2 := fun j u hu => pw_cell_below hb_ (C2 j u hu)
       replace O0 := O0.below hb_
       replace O1 := O1.below hb_
       replace O2 := O2.below hb_
       refine hK.out _ _ (hS _ hB hP) (fun sS_ => ?_)
       clear sS_
       clear hK K hb_
       obtain ⟨s0, hs0⟩ : ∃ g, g = W.heap.size := ⟨_, rfl⟩
       rw [← hs0] at C0 N00 N01 N02 ⊢
       clear hs0
       generalize W.alloc (.cells #[.int .i64 x0] 3) = W at hB hP O0 O1 O2 C0 C1 C2 ⊢
       refine one_ (i := 8) (N := some 96) #[true, true, true, true, true, true, true, true, true, true, true, true, true, true, true, false, true, true, true, true, true, true, false, false, false, false, false, false, false] h8 d8 (one_of tr16_tab (by kernel_rfl)) (by decide) (fun K hK => ?_)
       · rw [← d8]
         refine step_append_OwnI (w8 _) 22 und22 (.tmp 93) (.tmp 95) o8 base u0 r0 [x0] ((((eput_ne _ 95 93 _ (by decide)).trans (eput_ne _ 109 93 _ (by decide))).trans (eput_ne _ 102 93 _ (by decide))).trans hr0) O0 ⟨s0, 0, none⟩ 1 1 (eput_same _ 95 _ (by (try simp only [size_put]); rw [hA]; decide)) rfl C0 (by have := hl; omega) (Nat.le_trans hbs hB.size) ?_
         intro v0 W2 hO hb_ hg ho
         rw [d8]
         replace hP := keep_grown0 hP hg
         have e0 : v0.ownBlock = u0.ownBlock ∨ ∃ g, v0.ownBlock = some g ∧ W0.heap.size ≤ g := ho.imp id (fun h => ⟨_, h, hB.size⟩)
         replace hB := hB.trans hb_
         have hO1 := O1.grown hg (fun k hk e => dist_sym D01 k hk e)
         have hD01 := dist_app D01 ho (fun k hk => (O1.lt k hk).2)
         have hO2 := O2.grown hg (fun k hk e => dist_sym D02 k hk e)
         have hD02 := dist_app D02 ho (fun k hk => (O2.lt k hk).2)
         replace C1 := fun j u hu => cell_grown hg (C1 j u hu) (fun e => by rw [add_blk0] at e; exact N10 _ e.symm rfl)
         replace C2 := fun j u hu => cell_grown hg (C2 j u hu) (fun e => by rw [add_blk0] at e; exact N20 _ e.symm rfl)
         clear O0 O1 O2 C0 D01 D02
         have O0 := hO
         have O1 := hO1; have D01 := hD01
         have O2 := hO2; have D02 := hD02
         clear hO ho hb_ hg hO1 hD01 hO2 hD02
         refine hK.out _ _ (hS _ hB hP) (fun sS_ => ?_)
         clear sS_
         clear hK K W
         obtain ⟨W, hW⟩ : ∃ W : World, W = W2 := ⟨_, rfl⟩
         subst hW
         refine take_ (i := 23) (N := some 111) (v := .pointer (some ⟨g12, K0, none⟩)) #[true, true, true, true, true, true, true, true, true, true, true, true, true, true, true, false, true, true, true, true, true, true, false, true, false, false, false, false, false] h23 d23 (take_ofW tr16_tab tr16_bits (by kernel_rfl)) (fun c a w h => hQ c a w _ (by rw [← d23]; exact h)) (Or.inl ⟨w23 _, fun w' _ => step_index o23 (((((eput_ne _ 96 12 _ (by decide)).trans (eput_ne _ 95 12 _ (by decide))).trans (eput_ne _ 109 12 _ (by decide))).trans (eput_ne _ 102 12 _ (by decide))).trans h12) (((((eput_ne _ 96 88 _ (by decide)).trans (eput_ne _ 95 88 _ (by decide))).trans (eput_ne _ 109 88 _ (by decide))).trans (eput_ne _ 102 88 _ (by decide))).trans h88) hK0⟩) (hS _ hB hP) rfl ?_
         refine one_ (i := 15) (N := some 103) #[true, true, true, true, true, true, true, true, true, true, true, true, true, true, true, true, true, true, true, true, true, true, false, true, false, false, false, false, false] h15 d15 (one_of tr16_tab (by kernel_rfl)) (by decide) (fun K hK => ?_)
         · rw [← d15]
           refine step_append_OwnI (w15 _) 22 und22 (.tmp 99) (.tmp 102) o15 base u1 r1 [x1] ((((((eput_ne _ 111 99 _ (by decide)).trans (eput_ne _ 96 99 _ (by decide))).trans (eput_ne _ 95 99 _ (by decide))).trans (eput_ne _ 109 99 _ (by decide))).trans (eput_ne _ 102 99 _ (by decide))).trans hr1) O1 ⟨s1, 0, none⟩ 1 1 ((eput_ne _ 111 102 _ (by decide)).trans ((eput_ne _ 96 102 _ (by decide)).trans ((eput_ne _ 95 102 _ (by decide)).trans ((eput_ne _ 109 102 _ (by decide)).trans (eput_same _ 102 _ (by (try simp only [size_put]); rw [hA]; decide)))))) rfl C1 (by have := hl; omega) (Nat.le_trans hbs hB.size) ?_
           intro v1 W2 hO hb_ hg ho
           rw [d15]
           replace hP := keep_grown1 hP hg
           have e1 : v1.ownBlock = u1.ownBlock ∨ ∃ g, v1.ownBlock = some g ∧ W0.heap.size ≤ g := ho.imp id (fun h => ⟨_, h, hB.size⟩)
           replace hB := hB.trans hb_
           have hO0 := O0.grown hg (fun k hk e => D01 k hk e)
           have hD01 := dist_sym (dist_app (dist_sym D01) ho (fun k hk => (O0.lt k hk).2))
           have hO2 := O2.grown hg (fun k hk e => dist_sym D12 k hk e)
           have hD12 := dist_app D12 ho (fun k hk => (O2.lt k hk).2)
           replace C2 := fun j u hu => cell_grown hg (C2 j u hu) (fun e => by rw [add_blk0] at e; exact N21 _ e.symm rfl)
           clear O0 O1 O2 C1 D01 D12
           have O1 := hO
           have O0 := hO0; have D01 := hD01
           have O2 := hO2; have D12 := hD12
           clear hO ho hb_ hg hO0 hD01 hO2 hD12
           refine hK.out _ _ (hS _ hB hP) (fun sS_ => ?_)
           clear sS_
           clear hK K W
           obtain ⟨W, hW⟩ : ∃ W : World, W = W2 := ⟨_, rfl⟩
           subst hW
           refine one_ (i := 22) (N := some 110) #[true, true, true, true, true, true, true, true, true, true, true, true, true, true, true, true, true, true, true, true, true, true, true, true, false, false, false, false, false] h22 d22 (one_of tr16_tab (by kernel_rfl)) (by decide) (fun K hK => ?_)
           · rw [← d22]
             refine step_append_OwnI (w22 _) 22 und22 (.tmp 106) (.tmp 109) o22 base u2 r2 [x2] (((((((eput_ne _ 103 106 _ (by decide)).trans (eput_ne _ 111 106 _ (by decide))).trans (eput_ne _ 96 106 _ (by decide))).trans (eput_ne _ 95 106 _ (by decide))).trans (eput_ne _ 109 106 _ (by decide))).trans (eput_ne _ 102 106 _ (by decide))).trans hr2) O2 ⟨s2, 0, none⟩ 1 1 ((eput_ne _ 103 109 _ (by decide)).trans ((eput_ne _ 111 109 _ (by decide)).trans ((eput_ne _ 96 109 _ (by decide)).trans ((eput_ne _ 95 109 _ (by decide)).trans (eput_same _ 109 _ (by (try simp only [size_put]); rw [hA]; decide)))))) rfl C2 (by have := hl; omega) (Nat.le_trans hbs hB.size) ?_
             intro v2 W2 hO hb_ hg ho
             rw [d22]
             replace hP := keep_grown2 hP hg
             have e2 : v2.ownBlock = u2.ownBlock ∨ ∃ g, v2.ownBlock = some g ∧ W0.heap.size ≤ g := ho.imp id (fun h => ⟨_, h, hB.size⟩)
             replace hB := hB.trans hb_
             have hO0 := O0.grown hg (fun k hk e => D02 k hk e)
             have hD02 := dist_sym (dist_app (dist_sym D02) ho (fun k hk => (O0.lt k hk).2))
             have hO1 := O1.grown hg (fun k hk e => D12 k hk e)
             have hD12 := dist_sym (dist_app (dist_sym D12) ho (fun k hk => (O1.lt k hk).2))
             clear O0 O1 O2 C2 D02 D12
             have O2 := hO
             have O0 := hO0; have D02 := hD02
             have O1 := hO1; have D12 := hD12
             clear hO ho hb_ hg hO0 hD02 hO1 hD12
             refine hK.out _ _ (hS _ hB hP) (fun sS_ => ?_)
             clear sS_
             clear hK K W
             obtain ⟨W, hW⟩ : ∃ W : World, W = W2 := ⟨_, rfl⟩
             subst hW
             rw [put_comm (s := 109) (t := 95) (by decide)]
             rw [put_comm (s := 109) (t := 96) (by decide)]
             rw [put_comm (s := 109) (t := 111) (by decide)]
             rw [put_comm (s := 109) (t := 103) (by decide)]
             rw [put_comm (s := 102) (t := 95) (by decide)]
             rw [put_comm (s := 102) (t := 96) (by decide)]
             rw [put_comm (s := 102) (t := 111) (by decide)]
             exact hend _ _ _ _ _ _ _ hB O0 O1 O2 D01 D02 D12 e0 e1 e2 hP
 · rw [← d21]
   refine step_build (w21 _) o21 x2 (rfl.trans hx2) ?_
   rw [d21]
   have hb_ := below_alloc (Below.refl W.heap.size W) (.cells #[.int .i64 x2] 3)
   replace hP := keep_below hP hb_
   replace hB := hB.trans (hb_.mono (Nat.le_trans hbs hB.size))
   have C2 := one_cell W x2 3
   have N20 : ∀ k, u0.ownBlock = some k → k ≠ W.heap.size := fun k hk => by have := (O0.lt k hk).2; omega
   have N21 : ∀ k, u1.ownBlock = some k → k ≠ W.heap.size := fun k hk => by have := (O1.lt k hk).2; omega
   have N22 : ∀ k, u2.ownBlock = some k → k ≠ W.heap.size := fun k hk => by have := (O2.lt k hk).2; omega
   replace O0 := O0.below hb_
   replace O1 := O1.below hb_
   replace O2 := O2.below hb_
   refine hK.out _ _ (hS _ hB hP) (fun sS_ => ?_)
   clear sS_
   clear hK K hb_
   obtain ⟨s2, hs2⟩ : ∃ g, g = W.heap.size := ⟨_, rfl⟩
   rw [← hs2] at C2 N20 N21 N22 ⊢
   clear hs2
   generalize W.alloc (.cells #[.int .i64 x2] 3) = W at hB hP O0 O1 O2 C2 ⊢
   refine two_ (i := 7) (j := 14) (Ni := some 95) (Nj := some 102) #[true, true, true, true, true, true, true, true, false, true, true, true, true, true, false, false, true, true, true, true, true, true, false, false, false, false, false, false, false] #[true, true, true, true, true, true, true, false, false, true, true, true, true, true, true, false, true, true, true, true, true, true, false, false, false, false, false, false, false] h7 h14 d7 d14 tr16_tab (by kernel_rfl) (by decide) (by decide) (fun K hK => ?_) (fun K hK => ?_)
   · rw [← d7]
     refine step_build (w7 _) o7 x0 ((eput_ne _ 109 94 _ (by decide)).trans hx0) ?_
     rw [d7]
     have hb_ := below_alloc (Below.refl W.heap.size W) (.cells #[.int .i64 x0] 3)
     replace hP := keep_below hP hb_
     replace hB := hB.trans (hb_.mono (Nat.le_trans hbs hB.size))
     have C0 := one_cell W x0 3
     have N00 : ∀ k, u0.ownBlock = some k → k ≠ W.heap.size := fun k hk => by have := (O0.lt k hk).2; omega
     have N01 : ∀ k, u1.ownBlock = some k → k ≠ W.heap.size := fun k hk => by have := (O1.lt k hk).2; omega
     have N02 : ∀ k, u2.ownBlock = some k → k ≠ W.heap.size := fun k hk => by have := (O2.lt k hk).2; omega
     replace C2 := fun j u hu => pw_cell_below hb_ (C2 j u hu)
     replace O0 := O0.below hb_
     replace O1 := O1.below hb_
     replace O2 := O2.below hb_
     refine hK.out _ _ (hS _ hB hP) (fun sS_ => ?_)
     clear sS_
     clear hK K hb_
     obtain ⟨s0, hs0⟩ : ∃ g, g = W.heap.size := ⟨_, rfl⟩
     rw [← hs0] at C0 N00 N01 N02 ⊢
     clear hs0
     generalize W.alloc (.cells #[.int .i64 x0] 3) = W at hB hP O0 O1 O2 C0 C2 ⊢
     refine two_ (i := 8) (j := 14) (Ni := some 96) (Nj := some 102) #[true, true, true, true, true, true, true, true, true, true, true, true, true, true, false, false, true, true, true, true, true, true, false, false, false, false, false, false, false] #[true, true, true, true, true, true, true, true, false, true, true, true, true, true, true, false, true, true, true, true, true, true, false, false, false, false, false, false, false] h8 h14 d8 d14 tr16_tab (by kernel_rfl) (by decide) (by decide) (fun K hK => ?_) (fun K hK => ?_)
     · rw [← d8]
       refine step_append_OwnI (w8 _) 22 und22 (.tmp 93) (.tmp 95) o8 base u0 r0 [x0] (((eput_ne _ 95 93 _ (by decide)).trans (eput_ne _ 109 93 _ (by decide))).trans hr0) O0 ⟨s0, 0, none⟩ 1 1 (eput_same _ 95 _ (by (try simp only [size_put]); rw [hA]; decide)) rfl C0 (by have := hl; omega) (Nat.le_trans hbs hB.size) ?_
       intro v0 W2 hO hb_ hg ho
       rw [d8]
       replace hP := keep_grown0 hP hg
       have e0 : v0.ownBlock = u0.ownBlock ∨ ∃ g, v0.ownBlock = some g ∧ W0.heap.size ≤ g := ho.imp id (fun h => ⟨_, h, hB.size⟩)
       replace hB := hB.trans hb_
       have hO1 := O1.grown hg (fun k hk e => dist_sym D01 k hk e)
       have hD01 := dist_app D01 ho (fun k hk => (O1.lt k hk).2)
       have hO2 := O2.grown hg (fun k hk e => dist_sym D02 k hk e)
       have hD02 := dist_app D02 ho (fun k hk => (O2.lt k hk).2)
       replace C2 := fun j u hu => cell_grown hg (C2 j u hu) (fun e => by rw [add_blk0] at e; exact N20 _ e.symm rfl)
       clear O0 O1 O2 C0 D01 D02
       have O0 := hO
       have O1 := hO1; have D01 := hD01
       have O2 := hO2; have D02 := hD02
       clear hO ho hb_ hg hO1 hD01 hO2 hD02
       refine hK.out _ _ (hS _ hB hP) (fun sS_ => ?_)
       clear sS_
       clear hK K W
       obtain ⟨W, hW⟩ : ∃ W : World, W = W2 := ⟨_, rfl⟩
       subst hW
       refine take_ (i := 23) (N := some 111) (v := .pointer (some ⟨g12, K0, none⟩)) #[true, true, true, true, true, true, true, true, true, true, true, true, true, true, false, false, true, true, true, true, true, true, false, true, false, false, false, false, false] h23 d23 (take_ofW tr16_tab tr16_bits (by kernel_rfl)) (fun c a w h => hQ c a w _ (by rw [← d23]; exact h)) (Or.inl ⟨w23 _, fun w' _ => step_index o23 ((((eput_ne _ 96 12 _ (by decide)).trans (eput_ne _ 95 12 _ (by decide))).trans (eput_ne _ 109 12 _ (by decide))).trans h12) ((((eput_ne _ 96 88 _ (by decide)).trans (eput_ne _ 95 88 _ (by decide))).trans (eput_ne _ 109 88 _ (by decide))).trans h88) hK0⟩) (hS _ hB hP) rfl ?_
       refine one_ (i := 14) (N := some 102) #[true, true, true, true, true, true, true, true, true, true, true, true, true, true, true, false, true, true, true, true, true, true, false, true, false, false, false, false, false] h14 d14 (one_of tr16_tab (by kernel_rfl)) (by decide) (fun K hK => ?_)
       · rw [← d14]
         refine step_build (w14 _) o14 x1 (((((eput_ne _ 111 101 _ (by decide)).trans (eput_ne _ 96 101 _ (by decide))).trans (eput_ne _ 95 101 _ (by decide))).trans (eput_ne _ 109 101 _ (by decide))).trans hx1) ?_
         rw [d14]
         have hb_ := below_alloc (Below.refl W.heap.size W) (.cells #[.int .i64 x1] 3)
         replace hP := keep_below hP hb_
         replace hB := hB.trans (hb_.mono (Nat.le_trans hbs hB.size))
         have C1 := one_cell W x1 3
         have N11 : ∀ k, u1.ownBlock = some k → k ≠ W.heap.size := fun k hk => by have := (O1.lt k hk).2; omega
         have N12 : ∀ k, u2.ownBlock = some k → k ≠ W.heap.size := fun k hk => by have := (O2.lt k hk).2; omega
         replace C2 := fun j u hu => pw_cell_below hb_ (C2 j u hu)
         replace O0 := O0.below hb_
         replace O1 := O1.below hb_
         replace O2 := O2.below hb_
         refine hK.out _ _ (hS _ hB hP) (fun sS_ => ?_)
         clear sS_
         clear hK K hb_
         obtain ⟨s1, hs1⟩ : ∃ g, g = W.heap.size := ⟨_, rfl⟩
         rw [← hs1] at C1 N11 N12 ⊢
         clear hs1
         generalize W.alloc (.cells #[.int .i64 x1] 3) = W at hB hP O0 O1 O2 C1 C2 ⊢
         refine one_ (i := 15) (N := some 103) #[true, true, true, true, true, true, true, true, true, true, true, true, true, true, true, true, true, true, true, true, true, true, false, true, false, false, false, false, false] h15 d15 (one_of tr16_tab (by kernel_rfl)) (by decide) (fun K hK => ?_)
         · rw [← d15]
           refine step_append_OwnI (w15 _) 22 und22 (.tmp 99) (.tmp 102) o15 base u1 r1 [x1] ((((((eput_ne _ 102 99 _ (by decide)).trans (eput_ne _ 111 99 _ (by decide))).trans (eput_ne _ 96 99 _ (by decide))).trans (eput_ne _ 95 99 _ (by decide))).trans (eput_ne _ 109 99 _ (by decide))).trans hr1) O1 ⟨s1, 0, none⟩ 1 1 (eput_same _ 102 _ (by (try simp only [size_put]); rw [hA]; decide)) rfl C1 (by have := hl; omega) (Nat.le_trans hbs hB.size) ?_
           intro v1 W2 hO hb_ hg ho
           rw [d15]
           replace hP := keep_grown1 hP hg
           have e1 : v1.ownBlock = u1.ownBlock ∨ ∃ g, v1.ownBlock = some g ∧ W0.heap.size ≤ g := ho.imp id (fun h => ⟨_, h, hB.size⟩)
           replace hB := hB.trans hb_
           have hO0 := O0.grown hg (fun k hk e => D01 k hk e)
           have hD01 := dist_sym (dist_app (dist_sym D01) ho (fun k hk => (O0.lt k hk).2))
           have hO2 := O2.grown hg (fun k hk e => dist_sym D12 k hk e)
           have hD12 := dist_app D12 ho (fun k hk => (O2.lt k hk).2)
           replace C2 := fun j u hu => cell_grown hg (C2 j u hu) (fun e => by rw [add_blk0] at e; exact N21 _ e.symm rfl)
           clear O0 O1 O2 C1 D01 D12
           have O1 := hO
           have O0 := hO0; have D01 := hD01
           have O2 := hO2; have D12 := hD12
           clear hO ho hb_ hg hO0 hD01 hO2 hD12
           refine hK.out _ _ (hS _ hB hP) (fun sS_ => ?_)
           clear sS_
           clear hK K W
           obtain ⟨W, hW⟩ : ∃ W : World, W = W2 := ⟨_, rfl⟩
           subst hW
           refine one_ (i := 22) (N := some 110) #[true, true, true, true, true, true, true, true, true, true, true, true, true, true, true, true, true, true, true, true, true, true, true, true, false, false, false, false, false] h22 d22 (one_of tr16_tab (by kernel_rfl)) (by decide) (fun K hK => ?_)
           · rw [← d22]
             refine step_append_OwnI (w22 _) 22 und22 (.tmp 106) (.tmp 109) o22 base u2 r2 [x2] (((((((eput_ne _ 103 106 _ (by decide)).trans (eput_ne _ 102 106 _ (by decide))).trans (eput_ne _ 111 106 _ (by decide))).trans (eput_ne _ 96 106 _ (by decide))).trans (eput_ne _ 95 106 _ (by decide))).trans (eput_ne _ 109 106 _ (by decide))).trans hr2) O2 ⟨s2, 0, none⟩ 1 1 ((eput_ne _ 103 109 _ (by decide)).trans ((eput_ne _ 102 109 _ (by decide)).trans ((eput_ne _ 111 109 _ (by decide)).trans ((eput_ne _ 96 109 _ (by decide)).trans ((eput_ne _ 95 109 _ (by decide)).trans (eput_same _ 109 _ (by (try simp only [size_put]); rw [hA]; decide))))))) rfl C2 (by have := hl; omega) (Nat.le_trans hbs hB.size) ?_
             intro v2 W2 hO hb_ hg ho
             rw [d22]
             replace hP := keep_grown2 hP hg
             have e2 : v2.ownBlock = u2.ownBlock ∨ ∃ g, v2.ownBlock = some g ∧ W0.heap.size ≤ g := ho.imp id (fun h => ⟨_, h, hB.size⟩)
             replace hB := hB.trans hb_
             have hO0 := O0.grown hg (fun k hk e => D02 k hk e)
             have hD02 := dist_sym (dist_app (dist_sym D02) ho (fun k hk => (O0.lt k hk).2))
             have hO1 := O1.grown hg (fun k hk e => D12 k hk e)
             have hD12 := dist_sym (dist_app (dist_sym D12) ho (fun k hk => (O1.lt k hk).2))
             clear O0 O1 O2 C2 D02 D12
             have O2 := hO
             have O0 := hO0; have D02 := hD02
             have O1 := hO1; have D12 := hD12
             clear hO ho hb_ hg hO0 hD02 hO1 hD12
             refine hK.out _ _ (hS _ hB hP) (fun sS_ => ?_)
             clear sS_
             clear hK K W
             obtain ⟨W, hW⟩ : ∃ W : World, W = W2 := ⟨_, rfl⟩
             subst hW
             rw [put_comm (s := 109) (t := 95) (by decide)]
             rw [put_comm (s := 109) (t := 96) (by decide)]
             rw [put_comm (s := 109) (t := 111) (by decide)]
             rw [put_comm (s := 109) (t := 102) (by decide)]
             rw [put_comm (s := 109) (t := 103) (by decide)]
             exact hend _ _ _ _ _ _ _ hB O0 O1 O2 D01 D02 D12 e0 e1 e2 hP
     · rw [← d14]
       refine step_build (w14 _) o14 x1 (((eput_ne _ 95 101 _ (by decide)).trans (eput_ne _ 109 101 _ (by decide))).trans hx1) ?_
       rw [d14]
       have hb_ := below_alloc (Below.refl W.heap.size W) (.cells #[.int .i64 x1] 3)
       replace hP := keep_below hP hb_
       replace hB := hB.trans (hb_.mono (Nat.le_trans hbs hB.size))
       have C1 := one_cell W x1 3
       have N10 : ∀ k, u0.ownBlock = some k → k ≠ W.heap.size := fun k hk => by have := (O0.lt k hk).2; omega
       have N11 : ∀ k, u1.ownBlock = some k → k ≠ W.heap.size := fun k hk => by have := (O1.lt k hk).2; omega
       have N12 : ∀ k, u2.ownBlock = some k → k ≠ W.heap.size := fun k hk => by have := (O2.lt k hk).2; omega
       replace C0 := fun j u hu => pw_cell_below hb_ (C0 j u hu)
       replace C2 := fun j u hu => pw_cell_below hb_ (C2 j u hu)
       replace O0 := O0.below hb_
       replace O1 := O1.below hb_
       replace O2 := O2.below hb_
       refine hK.out _ _ (hS _ hB hP) (fun sS_ => ?_)
       clear sS_
       clear hK K hb_
       obtain ⟨s1, hs1⟩ : ∃ g, g = W.heap.size := ⟨_, rfl⟩
       rw [← hs1] at C1 N10 N11 N12 ⊢
       clear hs1
       generalize W.alloc (.cells #[.int .i64 x1] 3) = W at hB hP O0 O1 O2 C0 C1 C2 ⊢
       refine one_ (i := 8) (N := some 96) #[true, true, true, true, true, true, true, true, true, true, true, true, true, true, true, false, true, true, true, true, true, true, false, false, false, false, false, false, false] h8 d8 (one_of tr16_tab (by kernel_rfl)) (by decide) (fun K hK => ?_)
       · rw [← d8]
         refine step_append_OwnI (w8 _) 22 und22 (.tmp 93) (.tmp 95) o8 base u0 r0 [x0] ((((eput_ne _ 102 93 _ (by decide)).trans (eput_ne _ 95 93 _ (by decide))).trans (eput_ne _ 109 93 _ (by decide))).trans hr0) O0 ⟨s0, 0, none⟩ 1 1 ((eput_ne _ 102 95 _ (by decide)).trans (eput_same _ 95 _ (by (try simp only [size_put]); rw [hA]; decide))) rfl C0 (by have := hl; omega) (Nat.le_trans hbs hB.size) ?_
         intro v0 W2 hO hb_ hg ho
         rw [d8]
         replace hP := keep_grown0 hP hg
         have e0 : v0.ownBlock = u0.ownBlock ∨ ∃ g, v0.ownBlock = some g ∧ W0.heap.size ≤ g := ho.imp id (fun h => ⟨_, h, hB.size⟩)
         replace hB := hB.trans hb_
         have hO1 := O1.grown hg (fun k hk e => dist_sym D01 k hk e)
         have hD01 := dist_app D01 ho (fun k hk => (O1.lt k hk).2)
         have hO2 := O2.grown hg (fun k hk e => dist_sym D02 k hk e)
         have hD02 := dist_app D02 ho (fun k hk => (O2.lt k hk).2)
         replace C1 := fun j u hu => cell_grown hg (C1 j u hu) (fun e => by rw [add_blk0] at e; exact N10 _ e.symm rfl)
         replace C2 := fun j u hu => cell_grown hg (C2 j u hu) (fun e => by rw [add_blk0] at e; exact N20 _ e.symm rfl)
         clear O0 O1 O2 C0 D01 D02
         have O0 := hO
         have O1 := hO1; have D01 := hD01
         have O2 := hO2; have D02 := hD02
         clear hO ho hb_ hg hO1 hD01 hO2 hD02
         refine hK.out _ _ (hS _ hB hP) (fun sS_ => ?_)
         clear sS_
         clear hK K W
         obtain ⟨W, hW⟩ : ∃ W : World, W = W2 := ⟨_, rfl⟩
         subst hW
         refine take_ (i := 23) (N := some 111) (v := .pointer (some ⟨g12, K0, none⟩)) #[true, true, true, true, true, true, true, true, true, true, true, true, true, true, true, false, true, true, true, true, true, true, false, true, false, false, false, false, false] h23 d23 (take_ofW tr16_tab tr16_bits (by kernel_rfl)) (fun c a w h => hQ c a w _ (by rw [← d23]; exact h)) (Or.inl ⟨w23 _, fun w' _ => step_index o23 (((((eput_ne _ 96 12 _ (by decide)).trans (eput_ne _ 102 12 _ (by decide))).trans (eput_ne _ 95 12 _ (by decide))).trans (eput_ne _ 109 12 _ (by decide))).trans h12) (((((eput_ne _ 96 88 _ (by decide)).trans (eput_ne _ 102 88 _ (by decide))).trans (eput_ne _ 95 88 _ (by decide))).trans (eput_ne _ 109 88 _ (by decide))).trans h88) hK0⟩) (hS _ hB hP) rfl ?_
         refine one_ (i := 15) (N := some 103) #[true, true, true, true, true, true, true, true, true, true, true, true, true, true, true, true, true, true, true, true, true, true, false, true, false, false, false, false, false] h15 d15 (one_of tr16_tab (by kernel_rfl)) (by decide) (fun K hK => ?_)
         · rw [← d15]
           refine step_append_OwnI (w15 _) 22 und22 (.tmp 99) (.tmp 102) o15 base u1 r1 [x1] ((((((eput_ne _ 111 99 _ (by decide)).trans (eput_ne _ 96 99 _ (by decide))).trans (eput_ne _ 102 99 _ (by decide))).trans (eput_ne _ 95 99 _ (by decide))).trans (eput_ne _ 109 99 _ (by decide))).trans hr1) O1 ⟨s1, 0, none⟩ 1 1 ((eput_ne _ 111 102 _ (by decide)).trans ((eput_ne _ 96 102 _ (by decide)).trans (eput_same _ 102 _ (by (try simp only [size_put]); rw [hA]; decide)))) rfl C1 (by have := hl; omega) (Nat.le_trans hbs hB.size) ?_
           intro v1 W2 hO hb_ hg ho
           rw [d15]
           replace hP := keep_grown1 hP hg
           have e1 : v1.ownBlock = u1.ownBlock ∨ ∃ g, v1.ownBlock = some g ∧ W0.heap.size ≤ g := ho.imp id (fun h => ⟨_, h, hB.size⟩)
           replace hB := hB.trans hb_
           have hO0 := O0.grown hg (fun k hk e => D01 k hk e)
           have hD01 := dist_sym (dist_app (dist_sym D01) ho (fun k hk => (O0.lt k hk).2))
           have hO2 := O2.grown hg (fun k hk e => dist_sym D12 k hk e)
           have hD12 := dist_app D12 ho (fun k hk => (O2.lt k hk).2)
           replace C2 := fun j u hu => cell_grown hg (C2 j u hu) (fun e => by rw [add_blk0] at e; exact N21 _ e.symm rfl)
           clear O0 O1 O2 C1 D01 D12
           have O1 := hO
           have O0 := hO0; have D01 := hD01
           have O2 := hO2; have D12 := hD12
           clear hO ho hb_ hg hO0 hD01 hO2 hD12
           refine hK.out _ _ (hS _ hB hP) (fun sS_ => ?_)
           clear sS_
           clear hK K W
           obtain ⟨W, hW⟩ : ∃ W : World, W = W2 := ⟨_, rfl⟩
           subst hW
           refine one_ (i := 22) (N := some 110) #[true, true, true, true, true, true, true, true, true, true, true, true, true, true, true, true, true, true, true, true, true, true, true, true, false, false, false, false, false] h22 d22 (one_of tr16_tab (by kernel_rfl)) (by decide) (fun K hK => ?_)
           · rw [← d22]
             refine step_append_OwnI (w22 _) 22 und22 (.tmp 106) (.tmp 109) o22 base u2 r2 [x2] (((((((eput_ne _ 103 106 _ (by decide)).trans (eput_ne _ 111 106 _ (by decide))).trans (eput_ne _ 96 106 _ (by decide))).trans (eput_ne _ 102 106 _ (by decide))).trans (eput_ne _ 95 106 _ (by decide))).trans (eput_ne _ 109 106 _ (by decide))).trans hr2) O2 ⟨s2, 0, none⟩ 1 1 ((eput_ne _ 103 109 _ (by decide)).trans ((eput_ne _ 111 109 _ (by decide)).trans ((eput_ne _ 96 109 _ (by decide)).trans ((eput_ne _ 102 109 _ (by decide)).trans ((eput_ne _ 95 109 _ (by decide)).trans (eput_same _ 109 _ (by (try simp only [size_put]); rw [hA]; decide))))))) rfl C2 (by have := hl; omega) (Nat.le_trans hbs hB.size) ?_
             intro v2 W2 hO hb_ hg ho
             rw [d22]
             replace hP := keep_grown2 hP hg
             have e2 : v2.ownBlock = u2.ownBlock ∨ ∃ g, v2.ownBlock = some g ∧ W0.heap.size ≤ g := ho.imp id (fun h => ⟨_, h, hB.size⟩)
             replace hB := hB.trans hb_
             have hO0 := O0.grown hg (fun k hk e => D02 k hk e)
             have hD02 := dist_sym (dist_app (dist_sym D02) ho (fun k hk => (O0.lt k hk).2))
             have hO1 := O1.grown hg (fun k hk e => D12 k hk e)
             have hD12 := dist_sym (dist_app (dist_sym D12) ho (fun k hk => (O1.lt k hk).2))
             clear O0 O1 O2 C2 D02 D12
             have O2 := hO
             have O0 := hO0; have D02 := hD02
             have O1 := hO1; have D12 := hD12
             clear hO ho hb_ hg hO0 hD02 hO1 hD12
             refine hK.out _ _ (hS _ hB hP) (fun sS_ => ?_)
             clear sS_
             clear hK K W
             obtain ⟨W, hW⟩ : ∃ W : World, W = W2 := ⟨_, rfl⟩
             subst hW
             rw [put_comm (s := 109) (t := 95) (by decide)]
             rw [put_comm (s := 109) (t := 102) (by decide)]
             rw [put_comm (s := 109) (t := 96) (by decide)]
             rw [put_comm (s := 109) (t := 111) (by decide)]
             rw [put_comm (s := 109) (t := 103) (by decide)]
             rw [put_comm (s := 102) (t := 96) (by decide)]
             rw [put_comm (s := 102) (t := 111) (by decide)]
             exact hend _ _ _ _ _ _ _ hB O0 O1 O2 D01 D02 D12 e0 e1 e2 hP
   · rw [← d14]
     refine step_build (w14 _) o14 x1 ((eput_ne _ 109 101 _ (by decide)).trans hx1) ?_
     rw [d14]
     have hb_ := below_alloc (Below.refl W.heap.size W) (.cells #[.int .i64 x1] 3)
     replace hP := keep_below hP hb_
     replace hB := hB.trans (hb_.mono (Nat.le_trans hbs hB.size))
     have C1 := one_cell W x1 3
     have N10 : ∀ k, u0.ownBlock = some k → k ≠ W.heap.size := fun k hk => by have := (O0.lt k hk).2; omega
     have N11 : ∀ k, u1.ownBlock = some k → k ≠ W.heap.size := fun k hk => by have := (O1.lt k hk).2; omega
     have N12 : ∀ k, u2.ownBlock = some k → k ≠ W.heap.size := fun k hk => by have := (O2.lt k hk).2; omega
     replace C2 := fun j u hu => pw_cell_below hb_ (C2 j u hu)
     replace O0 := O0.below hb_
     replace O1 := O1.below hb_
     replace O2 := O2.below hb_
     refine hK.out _ _ (hS _ hB hP) (fun sS_ => ?_)
     clear sS_
     clear hK K hb_
     obtain ⟨s1, hs1⟩ : ∃ g, g = W.heap.size := ⟨_, rfl⟩
     rw [← hs1] at C1 N10 N11 N12 ⊢
     clear hs1
     generalize W.alloc (.cells #[.int .i64 x1] 3) = W at hB hP O0 O1 O2 C1 C2 ⊢
     refine one_ (i := 7) (N := some 95) #[true, true, true, true, true, true, true, true, false, true, true, true, true, true, true, false, true, true, true, true, true, true, false, false, false, false, false, false, false] h7 d7 (one_of tr16_tab (by kernel_rfl)) (by decide) (fun K hK => ?_)
     · rw [← d7]
       refine step_build (w7 _) o7 x0 (((eput_ne _ 102 94 _ (by decide)).trans (eput_ne _ 109 94 _ (by decide))).trans hx0) ?_
       rw [d7]
       have hb_ := below_alloc (Below.refl W.heap.size W) (.cells #[.int .i64 x0] 3)
       replace hP := keep_below hP hb_
       replace hB := hB.trans (hb_.mono (Nat.le_trans hbs hB.size))
       have C0 := one_cell W x0 3
       have N00 : ∀ k, u0.ownBlock = some k → k ≠ W.heap.size := fun k hk => by have := (O0.lt k hk).2; omega
       have N01 : ∀ k, u1.ownBlock = some k → k ≠ W.heap.size := fun k hk => by have := (O1.lt k hk).2; omega
       have N02 : ∀ k, u2.ownBlock = some k → k ≠ W.heap.size := fun k hk => by have := (O2.lt k hk).2; omega
       replace C1 := fun j u hu => pw_cell_below hb_ (C1 j u hu)
       replace C2 := fun j u hu => pw_cell_below hb_ (C2 j u hu)
       replace O0 := O0.below hb_
       replace O1 := O1.below hb_
       replace O2 := O2.below hb_
       refine hK.out _ _ (hS _ hB hP) (fun sS_ => ?_)
       clear sS_
       clear hK K hb_
       obtain ⟨s0, hs0⟩ : ∃ g, g = W.heap.size := ⟨_, rfl⟩
       rw [← hs0] at C0 N00 N01 N02 ⊢
       clear hs0
       generalize W.alloc (.cells #[.int .i64 x0] 3) = W at hB hP O0 O1 O2 C0 C1 C2 ⊢
       refine one_ (i := 8) (N := some 96) #[true, true, true, true, true, true, true, true, true, true, true, true, true, true, true, false, true, true, true, true, true, true, false, false, false, false, false, false, false] h8 d8 (one_of tr16_tab (by kernel_rfl)) (by decide) (fun K hK => ?_)
       · rw [← d8]
         refine step_append_OwnI (w8 _) 22 und22 (.tmp 93) (.tmp 95) o8 base u0 r0 [x0] ((((eput_ne _ 95 93 _ (by decide)).trans (eput_ne _ 102 93 _ (by decide))).trans (eput_ne _ 109 93 _ (by decide))).trans hr0) O0 ⟨s0, 0, none⟩ 1 1 (eput_same _ 95 _ (by (try simp only [size_put]); rw [hA]; decide)) rfl C0 (by have := hl; omega) (Nat.le_trans hbs hB.size) ?_
         intro v0 W2 hO hb_ hg ho
         rw [d8]
         replace hP := keep_grown0 hP hg
         have e0 : v0.ownBlock = u0.ownBlock ∨ ∃ g, v0.ownBlock = some g ∧ W0.heap.size ≤ g := ho.imp id (fun h => ⟨_, h, hB.size⟩)
         replace hB := hB.trans hb_
         have hO1 := O1.grown hg (fun k hk e => dist_sym D01 k hk e)
         have hD01 := dist_app D01 ho (fun k hk => (O1.lt k hk).2)
         have hO2 := O2.grown hg (fun k hk e => dist_sym D02 k hk e)
         have hD02 := dist_app D02 ho (fun k hk => (O2.lt k hk).2)
         replace C1 := fun j u hu => cell_grown hg (C1 j u hu) (fun e => by rw [add_blk0] at e; exact N10 _ e.symm rfl)
         replace C2 := fun j u hu => cell_grown hg (C2 j u hu) (fun e => by rw [add_blk0] at e; exact N20 _ e.symm rfl)
         clear O0 O1 O2 C0 D01 D02
         have O0 := hO
         have O1 := hO1; have D01 := hD01
         have O2 := hO2; have D02 := hD02
         clear hO ho hb_ hg hO1 hD01 hO2 hD02
         refine hK.out _ _ (hS _ hB hP) (fun sS_ => ?_)
         clear sS_
         clear hK K W
         obtain ⟨W, hW⟩ : ∃ W : World, W = W2 := ⟨_, rfl⟩
         subst hW
         refine take_ (i := 23) (N := some 111) (v := .pointer (some ⟨g12, K0, none⟩)) #[true, true, true, true, true, true, true, true, true, true, true, true, true, true, true, false, true, true, true, true, true, true, false, true, false, false, false, false, false] h23 d23 (take_ofW tr16_tab tr16_bits (by kernel_rfl)) (fun c a w h => hQ c a w _ (by rw [← d23]; exact h)) (Or.inl ⟨w23 _, fun w' _ => step_index o23 (((((eput_ne _ 96 12 _ (by decide)).trans (eput_ne _ 95 12 _ (by decide))).trans (eput_ne _ 102 12 _ (by decide))).trans (eput_ne _ 109 12 _ (by decide))).trans h12) (((((eput_ne _ 96 88 _ (by decide)).trans (eput_ne _ 95 88 _ (by decide))).trans (eput_ne _ 102 88 _ (by decide))).trans (eput_ne _ 109 88 _ (by decide))).trans h88) hK0⟩) (hS _ hB hP) rfl ?_
         refine one_ (i := 15) (N := some 103) #[true, true, true, true, true, true, true, true, true, true, true, true, true, true, true, true, true, true, true, true, true, true, false, true, false, false, false, false, false] h15 d15 (one_of tr16_tab (by kernel_rfl)) (by decide) (fun K hK => ?_)
         · rw [← d15]
           refine step_append_OwnI (w15 _) 22 und22 (.tmp 99) (.tmp 102) o15 base u1 r1 [x1] ((((((eput_ne _ 111 99 _ (by decide)).trans (eput_ne _ 96 99 _ (by decide))).trans (eput_ne _ 95 99 _ (by decide))).trans (eput_ne _ 102 99 _ (by decide))).trans (eput_ne _ 109 99 _ (by decide))).trans hr1) O1 ⟨s1, 0, none⟩ 1 1 ((eput_ne _ 111 102 _ (by decide)).trans ((eput_ne _ 96 102 _ (by decide)).trans ((eput_ne _ 95 102 _ (by decide)).trans (eput_same _ 102 _ (by (try simp only [size_put]); rw [hA]; decide))))) rfl C1 (by have := hl; omega) (Nat.le_trans hbs hB.size) ?_
           intro v1 W2 hO hb_ hg ho
           rw [d15]
           replace hP := keep_grown1 hP hg
           have e1 : v1.ownBlock = u1.ownBlock ∨ ∃ g, v1.ownBlock = some g ∧ W0.heap.size ≤ g := ho.imp id (fun h => ⟨_, h, hB.size⟩)
           replace hB := hB.trans hb_
           have hO0 := O0.grown hg (fun k hk e => D01 k hk e)
           have hD01 := dist_sym (dist_app (dist_sym D01) ho (fun k hk => (O0.lt k hk).2))
           have hO2 := O2.grown hg (fun k hk e => dist_sym D12 k hk e)
           have hD12 := dist_app D12 ho (fun k hk => (O2.lt k hk).2)
           replace C2 := fun j u hu => cell_grown hg (C2 j u hu) (fun e => by rw [add_blk0] at e; exact N21 _ e.symm rfl)
           clear O0 O1 O2 C1 D01 D12
           have O1 := hO
           have O0 := hO0; have D01 := hD01
           have O2 := hO2; have D12 := hD12
           clear hO ho hb_ hg hO0 hD01 hO2 hD12
           refine hK.out _ _ (hS _ hB hP) (fun sS_ => ?_)
           clear sS_
           clear hK K W
           obtain ⟨W, hW⟩ : ∃ W : World, W = W2 := ⟨_, rfl⟩
           subst hW
           refine one_ (i := 22) (N := some 110) #[true, true, true, true, true, true, true, true, true, true, true, true, true, true, true, true, true, true, true, true, true, true, true, true, false, false, false, false, false] h22 d22 (one_of tr16_tab (by kernel_rfl)) (by decide) (fun K hK => ?_)
           · rw [← d22]
             refine step_append_OwnI (w22 _) 22 und22 (.tmp 106) (.tmp 109) o22 base u2 r2 [x2] (((((((eput_ne _ 103 106 _ (by decide)).trans (eput_ne _ 111 106 _ (by decide))).trans (eput_ne _ 96 106 _ (by decide))).trans (eput_ne _ 95 106 _ (by decide))).trans (eput_ne _ 102 106 _ (by decide))).trans (eput_ne _ 109 106 _ (by decide))).trans hr2) O2 ⟨s2, 0, none⟩ 1 1 ((eput_ne _ 103 109 _ (by decide)).trans ((eput_ne _ 111 109 _ (by decide)).trans ((eput_ne _ 96 109 _ (by decide)).trans ((eput_ne _ 95 109 _ (by decide)).trans ((eput_ne _ 102 109 _ (by decide)).trans (eput_same _ 109 _ (by (try simp only [size_put]); rw [hA]; decide))))))) rfl C2 (by have := hl; omega) (Nat.le_trans hbs hB.size) ?_
             intro v2 W2 hO hb_ hg ho
             rw [d22]
             replace hP := keep_grown2 hP hg
             have e2 : v2.ownBlock = u2.ownBlock ∨ ∃ g, v2.ownBlock = some g ∧ W0.heap.size ≤ g := ho.imp id (fun h => ⟨_, h, hB.size⟩)
             replace hB := hB.trans hb_
             have hO0 := O0.grown hg (fun k hk e => D02 k hk e)
             have hD02 := dist_sym (dist_app (dist_sym D02) ho (fun k hk => (O0.lt k hk).2))
             have hO1 := O1.grown hg (fun k hk e => D12 k hk e)
             have hD12 := dist_sym (dist_app (dist_sym D12) ho (fun k hk => (O1.lt k hk).2))
             clear O0 O1 O2 C2 D02 D12
             have O2 := hO
             have O0 := hO0; have D02 := hD02
             have O1 := hO1; have D12 := hD12
             clear hO ho hb_ hg hO0 hD02 hO1 hD12
             refine hK.out _ _ (hS _ hB hP) (fun sS_ => ?_)
             clear sS_
             clear hK K W
             obtain ⟨W, hW⟩ : ∃ W : World, W = W2 := ⟨_, rfl⟩
             subst hW
             rw [put_comm (s := 109) (t := 102) (by decide)]
             rw [put_comm (s := 109) (t := 95) (by decide)]
             rw [put_comm (s := 109) (t := 96) (by decide)]
             rw [put_comm (s := 109) (t := 111) (by decide)]
             rw [put_comm (s := 109) (t := 103) (by decide)]
             rw [put_comm (s := 102) (t := 95) (by decide)]
             rw [put_comm (s := 102) (t := 96) (by decide)]
             rw [put_comm (s := 102) (t := 111) (by decide)]
             exact hend _ _ _ _ _ _ _ hB O0 O1 O2 D01 D02 D12 e0 e1 e2 hP
theorem chains3w {ops : Array Oper} (hops : ops = opsOf Try.f12 16) {Q : Exit → Act → World → Prop} {S : World → Prop} (A : Act) (W0 : World) (base : Nat) (u0 u1 u2 : Value) (r0 r1 r2 : List Int) (x0 x1 x2 : Int) (g12 K0 : Nat) (hA : A.tmps.size = 201)
  (hr0 : A.eval (.tmp 93) = u0) (hr1 : A.eval (.tmp 99) = u1) (hr2 : A.eval (.tmp 106) = u2) (hx0 : A.eval (.tmp 94) = .int .i64 x0) (hx1 : A.eval (.tmp 101) = .int .i64 x1) (hx2 : A.eval (.tmp 108) = .int .i64 x2)
  (h12 : A.eval (.tmp 12) = .pointer (some ⟨g12, 0, none⟩)) (h88 : A.eval (.tmp 88) = .int .i64 K0) (hK0 : K0 < 2) (hl : r0.length ≤ 1000 ∧ r1.length ≤ 1000 ∧ r2.length ≤ 1000)
  (O0 : OwnI W0 base u0 r0) (O1 : OwnI W0 base u1 r1) (O2 : OwnI W0 base u2 r2) (D01 : ∀ k, u0.ownBlock = some k → u1.ownBlock ≠ some k) (D02 : ∀ k, u0.ownBlock = some k → u2.ownBlock ≠ some k) (D12 : ∀ k, u1.ownBlock = some k → u2.ownBlock ≠ some k) (hbs : base ≤ W0.heap.size)
  (hS : ∀ W', Below base W0 W' → Keep3 W0 W' u0 u1 u2 → S W') (hQ : ∀ c a w v, Q (.panic c) (a.put (some 111) v) w → Q (.panic c) a w)
  (hend : ∀ (s0 s1 s2 v0 v1 v2 : Value) (W' : World), Below base W0 W' → OwnI W' base v0 (r0 ++ [x0]) → OwnI W' base v1 (r1 ++ [x1]) → OwnI W' base v2 (r2 ++ [x2]) → (∀ k, v0.ownBlock = some k → v1.ownBlock ≠ some k) → (∀ k, v0.ownBlock = some k → v2.ownBlock ≠ some k) → (∀ k, v1.ownBlock = some k → v2.ownBlock ≠ some k) →
    (v0.ownBlock = u0.ownBlock ∨ ∃ g, v0.ownBlock = some g ∧ W0.heap.size ≤ g) → (v1.ownBlock = u1.ownBlock ∨ ∃ g, v1.ownBlock = some g ∧ W0.heap.size ≤ g) → (v2.ownBlock = u2.ownBlock ∨ ∃ g, v2.ownBlock = some g ∧ W0.heap.size ≤ g) → Keep3 W0 W' u0 u1 u2 →
    wpAnyLast Try.prog .any ops Q S [24, 26, 28] 5 #[true, true, true, true, true, true, true, true, true, true, true, true, true, true, true, true, true, true, true, true, true, true, true, true, false, false, false, false, false] (((((((A.put (some 95) s0).put (some 96) v0).put (some 111) (.pointer (some ⟨g12, K0, none⟩))).put (some 102) s1).put (some 103) v1).put (some 109) s2).put (some 110) v2) W') :
  wpAnyLast Try.prog .any ops Q S [24, 26, 28] 12 #[true, true, true, true, true, true, true, false, false, true, true, true, true, true, false, false, true, true, true, true, true, false, false, false, false, false, false, false, false] A W0 := by
 subst hops
 exact chains3 (f := 5) A W0 base u0 u1 u2 r0 r1 r2 x0 x1 x2 g12 K0 hA hr0 hr1 hr2 hx0 hx1 hx2 h12 h88 hK0 hl O0 O1 O2 D01 D02 D12 hbs hS hQ hend

end Go.Proofs.Ythddeillkdediaa.H

/- Bytes picked; spans appended. -/
namespace Go.Proofs.Ythddeillkdediaa.H
open Go.RowKit Go.Proofs.YthddeillkdediaaW.PrintWords Go.Proofs.YthddeillkdediaaW.PrintLast Go.Proofs.YthddeillkdediaaW.PrintMore
open Go.Shelf Go.Proofs.Ythddeillkdediaa.QA
set_option linter.unusedVariables false
set_option linter.unusedSimpArgs false


/-- One of the bytes told, within what it may be. -/
def pickI (l : List Int) (i n : Nat) : Int := if l.length = 0 then 0 else (((rd l ((i % l.length : Nat) : Int)).toNat % (n + 1) : Nat) : Int)
theorem pickI_in (l : List Int) (i n : Nat) : 0 ≤ pickI l i n ∧ pickI l i n ≤ n := by
 unfold pickI
 split
 · omega
 · have := Nat.mod_lt (rd l ((i % l.length : Nat) : Int)).toNat (Nat.succ_pos n)
   simp only [Nat.succ_eq_add_one] at this
   omega
set_option maxRecDepth 100000 in
set_option maxHeartbeats 4000000 in
theorem pick_calls (A : Option Addr) (c : Nat) (l : List Int) (i n : Nat) (w : World) (hr : Kd.C (Kd.int .u8) w A l.length l) (hc : l.length ≤ c) (hl : ∀ x ∈ l, 0 ≤ x ∧ x ≤ 255) (hi : i ≤ 1000) (hn : n ≤ 1000) :
  Calls Try.prog 39 #[.slice A l.length c, .int .i64 (i : Int), .int .i64 (n : Int)] w fun e w' => e = .returned (.int .i64 (pickI l i n)) ∧ Below w.heap.size w w' := by
 have HB := Aside0.mk (Below.refl w.heap.size w)
 obtain ⟨r, hR⟩ : ∃ r, r = pickI l i n := ⟨_, rfl⟩
 rw [← hR]
 by_cases h0 : l.length = 0
 · have hz : r = 0 := by rw [hR]; unfold pickI; rw [if_pos h0]
   rw [hz]
   have hd : (l.length : Int) = 0 := by omega
   rw [h0]
   clear hr hR hz hd hc hl
   go_enter Try.func39, Try.ntmps39
   go_wp2
   go_ret
   exact ⟨rfl, HB.out⟩
 · obtain ⟨m, hm⟩ : ∃ m, m = l.length := ⟨_, rfl⟩
   obtain ⟨j, hj⟩ : ∃ j, j = i % m := ⟨_, rfl⟩
   have hjm : j < m := by rw [hj]; exact Nat.mod_lt _ (by omega)
   have hmx := Kd.C_max hr
   obtain ⟨ad, rfl, t0⟩ := Kd.at_int hr (j : Int) (by omega) (by omega)
   rw [Int.toNat_natCast] at t0
   have hv := hl (rd l (j : Int)) (by rw [hm] at hjm; exact rd_mem l hjm)
   obtain ⟨v, hve⟩ : ∃ v, v = rd l (j : Int) := ⟨_, rfl⟩
   rw [← hve] at t0 hv
   have hz : r = Int.tmod v ((n : Int) + 1) := by
    rw [hR]; unfold pickI; rw [if_neg h0, ← hm, ← hj, ← hve]
    rw [show v = ((v.toNat : Nat) : Int) by omega, show (n : Int) + 1 = ((n + 1 : Nat) : Int) by omega, tmod_nat, Int.toNat_natCast]
   have e1 : Int.tmod (i : Int) (m : Int) = (j : Int) := by rw [tmod_nat, hj]
   have e2 : wrap64 ((n : Int) + 1) = ((n + 1 : Nat) : Int) := by rw [w64' _ (by omega) (by omega)]; omega
   have e3 : wrap64 v = v := w64' _ (by omega) (by omega)
   obtain ⟨n1, hn1⟩ : ∃ n1, n1 = n + 1 := ⟨_, rfl⟩
   rw [← hn1] at e2
   have e4 : Int.tmod v (n1 : Int) = r := by rw [hz, hn1]; congr 1
   have z1 : ¬ m = 0 := by omega
   have z2 : ¬ (m : Int) = 0 := by omega
   have z3 : ¬ n1 = 0 := by omega
   have z4 : ¬ (n1 : Int) = 0 := by omega
   rw [← hm]
   clear hr hR hz hc hl h0 hm hj hve hv hn1 hi hn hmx
   go_enter Try.func39, Try.ntmps39
   go_wp2
   go_ret
   exact ⟨rfl, HB.out⟩
section
variable {W W' : World} {base : Nat} {v : Value} {xs : List S41}
theorem own_keptSp (h : OwnSp W base v xs) (hk : ∀ (j : Nat) (cur : Array Value), v.ownBlock = some j → W.heap[j]? = some (.cells cur 41 (0, 0)) → W'.heap[j]? = some (.cells cur 41 (0, 0))) : OwnSp W' base v xs := by
 obtain ⟨h1, h2⟩ := h
 refine ⟨h1, ?_⟩
 rcases h2 with h2 | ⟨g, cap, cur, rfl, h4, h5, h6⟩
 · exact .inl h2
 · exact .inr ⟨g, cap, cur, rfl, h4, hk g cur rfl h5, h6⟩
theorem OwnSp.below (h : OwnSp W base v xs) (hb : Below W.heap.size W W') : OwnSp W' base v xs := own_keptSp h fun j cur _ hj => blk_below2 hb hj
theorem OwnSp.grown {row : Option Nat} (h : OwnSp W base v xs) (hg : W.grownBy W' row) (hne : ∀ k, v.ownBlock = some k → row ≠ some k) : OwnSp W' base v xs := own_keptSp h fun j cur e hj => (hg.block j (blk_lt2 hj) (fun h => hne j e h.symm)).trans hj
theorem OwnSp.lt (h : OwnSp W base v xs) : ∀ k, v.ownBlock = some k → base ≤ k ∧ k < W.heap.size := fun k e => by
 rcases h.2 with ⟨h3, _⟩ | ⟨g, cap, cur, rfl, h4, h5, h6⟩
 · rw [h3] at e; cases e
 · obtain rfl : g = k := Option.some.inj e
   exact ⟨h4, blk_lt2 h5⟩
theorem OwnSp.nil : OwnSp W base (.slice none 0 0) [] := ⟨rfl, .inl ⟨rfl, rfl⟩⟩
end
theorem wpList_append_OwnSp2 {ops : Array Oper} {rest : List Oper} {o : Oper} {a : Act} {Q : Exit → Act → World → Prop} {W : World} (hgd : o.guard = none) (s x : Operand)
  (ho : o.op = .call { callee := .builtin .append, args := #[s, x], argTypes := #[39, 39] }) (base : Nat) (v : Value) (xs ys : List S41) (hs : a.eval s = v) (hv : OwnSp W base v xs) (ad : Addr) (m c : Nat) (hx : a.eval x = .slice (some ad) m c) (hm : m = ys.length)
  (hc : ∀ j u, (cellsSp ys)[j]? = some u → W.cell? (ad.add j) = some u) (hl : xs.length + m ≤ 1000000) (hb : base ≤ W.heap.size)
  (h : ∀ v' w', OwnSp w' base v' (xs ++ ys) → Below base W w' → W.grownBy w' v.ownBlock → (v'.ownBlock = v.ownBlock ∨ v'.ownBlock = some W.heap.size) → wpList Try.prog ops Q rest (a.put o.dst v') w') : wpList Try.prog ops Q (o :: rest) a W := by
 obtain ⟨i0, hi, hz0, hz1, hz2⟩ := info_parts info41
 have hM : maxLen = 9223372036854775807 := rfl
 refine wpList_append_own_at _ hgd s x 39 ho base 41 i0 (.agg #[(.int .i64 0), (.int .i64 0)]) 2 16 (by kernel_rfl) hi hz0 hz1 hz2 rfl (by decide) v xs.length (cellsSp xs) hs hv ad m c (cellsSp ys) hx (by rw [cellsSp_len, hm]) hc (cellsSp_one ys) (by omega) (by omega) hb ?_
 intro v' w' h1 h2 h3 h4
 refine h v' w' ?_ ((Below.refl _ _).grown h2 hb (fun j ej => own_base2 hv j ej)) h2 (by first | exact h4 | exact h3)
 unfold OwnSp
 rw [List.length_append, ← hm]
 rw [show cellsSp (xs ++ ys) = cellsSp xs ++ cellsSp ys by simp [cellsSp]]
 exact h1
theorem step_append_OwnSp {ops : Array Oper} {o : Oper} {a : Act} {K : Act → World → Prop} {Q : Exit → Act → World → Prop} {W : World} (hw : Region.wanted o (yielded ops a.tmps) = true) (s x : Operand)
  (ho : o.op = .call { callee := .builtin .append, args := #[s, x], argTypes := #[39, 39] }) (base : Nat) (v : Value) (xs ys : List S41) (hs : a.eval s = v) (hv : OwnSp W base v xs) (ad : Addr) (m c : Nat) (hx : a.eval x = .slice (some ad) m c) (hm : m = ys.length)
  (hc : ∀ j u, (cellsSp ys)[j]? = some u → W.cell? (ad.add j) = some u) (hl : xs.length + m ≤ 1000000) (hb : base ≤ W.heap.size)
  (h : ∀ v' w', OwnSp w' base v' (xs ++ ys) → Below base W w' → W.grownBy w' v.ownBlock → (v'.ownBlock = v.ownBlock ∨ v'.ownBlock = some W.heap.size) → K (a.put o.dst v') w') : if Region.wanted o (yielded ops a.tmps) = true then Oper.wp Try.prog o a W K Q else K (a.put o.dst undef) W := by
 obtain ⟨i0, hi, hz0, hz1, hz2⟩ := info_parts info41
 have hM : maxLen = 9223372036854775807 := rfl
 rw [if_pos hw]
 obtain ⟨v1, w1, hr, hown, hg, _, hat⟩ := run_append_own_at (P := Try.prog) (w := W) base 39 o.type 41 i0 (.agg #[(.int .i64 0), (.int .i64 0)]) 2 16 (by kernel_rfl) hi hz0 hz1 hz2 rfl (by decide) v xs.length (cellsSp xs) hv ad m c (cellsSp ys) (by rw [cellsSp_len, hm]) hc (cellsSp_one ys) (by omega) (by omega) hb
 unfold Oper.wp execOp
 simp only [ho, resolve, invoke, builtin, Sem.run_bind, Sem.run_pure, Result.andThen_ok, List.map_toArray, List.map_cons, List.map_nil, hs, hx, hr]
 refine h v1 w1 ?_ ((Below.refl _ _).grown hg hb (fun j ej => own_base2 hv j ej)) hg hat
 unfold OwnSp
 rw [List.length_append, ← hm]
 rw [show cellsSp (xs ++ ys) = cellsSp xs ++ cellsSp ys by simp [cellsSp]]
 exact hown
theorem one_cellSp (W : World) (x y : Int) (t : TypeId) : ∀ j u, (cellsSp [⟨x, y⟩])[j]? = some u → (W.alloc (.cells #[.int .i64 x, .int .i64 y] t)).cell? ((⟨W.heap.size, 0, none⟩ : Addr).add j) = some u := fun j u hu => by
 simpa using World.news_of_block (cs := #[Value.int IntKind.i64 x, Value.int IntKind.i64 y]) (t := t) (fr := (0, 0)) (heap_alloc_new W (Obj.cells #[Value.int IntKind.i64 x, Value.int IntKind.i64 y] t)) j u (by simpa [cellsSp] using hu)

end Go.Proofs.Ythddeillkdediaa.H

/- Plain law: samples that do not overlap. -/
namespace Go.Proofs.Ythddeillkdediaa.H
open Go.RowKit Go.Proofs.YthddeillkdediaaW.PrintWords Go.Proofs.YthddeillkdediaaW.PrintLast Go.Proofs.YthddeillkdediaaW.PrintMore
open Go.Shelf Go.Proofs.Ythddeillkdediaa.QA
set_option linter.unusedVariables false
set_option linter.unusedSimpArgs false


theorem scoreI_mono {x x' y y' : Int} (h1 : x' ≤ x) (h2 : y ≤ y') : scoreI x y ≤ scoreI x' y' := by
 unfold scoreI
 split <;> split <;> (try split) <;> (try split) <;> omega
theorem rowS_mono (x x' : Int) (hx : x' ≤ x) : ∀ b b' : List Int, b.length = b'.length → (∀ i : Nat, i < b.length → rd b (i : Int) ≤ rd b' (i : Int)) → rowS b x ≤ rowS b' x'
 | [], [], _, _ => by simp [rowS, sumI]
 | y :: b, y' :: b', hl, h => by
  have h0 : y ≤ y' := h 0 (by simp)
  have ih := rowS_mono x x' hx b b' (by simpa using hl) (fun i hi => by
   have := h (i + 1) (by simpa using hi)
   unfold rd at this ⊢
   simpa using this)
  have := scoreI_mono hx h0
  unfold rowS at ih ⊢
  simp only [List.map_cons, sumI]
  omega
theorem beats_mono (b b' : List Int) (hb : b.length = b'.length) (h : ∀ i : Nat, i < b.length → rd b (i : Int) ≤ rd b' (i : Int)) : ∀ a a' : List Int, a.length = a'.length → (∀ i : Nat, i < a.length → rd a' (i : Int) ≤ rd a (i : Int)) → beatsI a b ≤ beatsI a' b'
 | [], [], _, _ => by simp [beatsI, sumI]
 | x :: a, x' :: a', hl, ha => by
  have h0 : x' ≤ x := ha 0 (by simp)
  have ih := beats_mono b b' hb h a a' (by simpa using hl) (fun i hi => by
   have := ha (i + 1) (by simpa using hi)
   unfold rd at this ⊢
   simpa using this)
  have := rowS_mono x x' h0 b b' hb h
  rw [beatsI_rows] at ih ⊢
  rw [beatsI_rows] at ih ⊢
  simp only [List.map_cons, sumI]
  omega
end Go.Proofs.Ythddeillkdediaa.H

/- Five rows of one's own; what is true lies within. -/
namespace Go.Proofs.Ythddeillkdediaa.H
open Go.RowKit Go.Proofs.YthddeillkdediaaW.PrintWords Go.Proofs.YthddeillkdediaaW.PrintLast Go.Proofs.YthddeillkdediaaW.PrintMore
open Go.Shelf Go.Proofs.Ythddeillkdediaa.QA
set_option linter.unusedVariables false
set_option linter.unusedSimpArgs false


/-- Five rows of one's own, each in a block of its own. -/
structure O5 (W : World) (B : Nat) (v0 v1 v2 v3 v4 : Value) (S0 S1 : List S41) (I2 I3 I4 : List Int) : Prop where
 o0 : OwnSp W B v0 S0
 o1 : OwnSp W B v1 S1
 o2 : OwnI W B v2 I2
 o3 : OwnI W B v3 I3
 o4 : OwnI W B v4 I4
 d01 : ∀ k, v0.ownBlock = some k → v1.ownBlock ≠ some k
 d02 : ∀ k, v0.ownBlock = some k → v2.ownBlock ≠ some k
 d03 : ∀ k, v0.ownBlock = some k → v3.ownBlock ≠ some k
 d04 : ∀ k, v0.ownBlock = some k → v4.ownBlock ≠ some k
 d12 : ∀ k, v1.ownBlock = some k → v2.ownBlock ≠ some k
 d13 : ∀ k, v1.ownBlock = some k → v3.ownBlock ≠ some k
 d14 : ∀ k, v1.ownBlock = some k → v4.ownBlock ≠ some k
 d23 : ∀ k, v2.ownBlock = some k → v3.ownBlock ≠ some k
 d24 : ∀ k, v2.ownBlock = some k → v4.ownBlock ≠ some k
 d34 : ∀ k, v3.ownBlock = some k → v4.ownBlock ≠ some k
theorem dist_new {u v n : Value} {m : Nat} (hd : ∀ k, u.ownBlock = some k → v.ownBlock ≠ some k) (hn : n.ownBlock = v.ownBlock ∨ ∃ g, n.ownBlock = some g ∧ m ≤ g) (hlt : ∀ k, u.ownBlock = some k → k < m) : ∀ k, u.ownBlock = some k → n.ownBlock ≠ some k := fun k hk e => by
 rcases hn with h | ⟨g, h, hg⟩
 · exact hd k hk (h ▸ e)
 · have := hlt k hk
   rw [h] at e
   have := Option.some.inj e
   omega
/-- Blocks from a place on, of an earlier world, stay. -/
def KeepF (B0 : Nat) (wO W : World) : Prop := ∀ k o, wO.heap[k]? = some o → B0 ≤ k → W.heap[k]? = some o
section
variable {W W' wO : World} {B B0 : Nat} {v0 v1 v2 v3 v4 : Value} {S0 S1 : List S41} {I2 I3 I4 : List Int}
theorem KeepF.refl : KeepF B0 wO wO := fun _ _ h _ => h
theorem KeepF.below (h : KeepF B0 wO W) (hb : Below wO.heap.size W W') : KeepF B0 wO W' := fun k o hk h0 => (hb.block k (blk_lt2 hk)).trans (h k o hk h0)
theorem KeepF.set {g j : Nat} {v : Value} (h : KeepF B0 wO W) (hg : g < B0) : KeepF B0 wO (W.setCell ⟨g, j, none⟩ v) := fun k o hk h0 => by
 rw [Below.heap_setCell _ _ _ _ (show k ≠ g by omega)]
 exact h k o hk h0
theorem O5.nil : O5 W B (.slice none 0 0) (.slice none 0 0) (.slice none 0 0) (.slice none 0 0) (.slice none 0 0) [] [] [] [] [] :=
 ⟨OwnSp.nil, OwnSp.nil, OwnI.nil, OwnI.nil, OwnI.nil, (fun k hk => by cases hk), (fun k hk => by cases hk), (fun k hk => by cases hk), (fun k hk => by cases hk), (fun k hk => by cases hk), (fun k hk => by cases hk), (fun k hk => by cases hk), (fun k hk => by cases hk), (fun k hk => by cases hk), (fun k hk => by cases hk)⟩
theorem O5.below (h : O5 W B v0 v1 v2 v3 v4 S0 S1 I2 I3 I4) (hb : Below W.heap.size W W') : O5 W' B v0 v1 v2 v3 v4 S0 S1 I2 I3 I4 :=
 ⟨h.o0.below hb, h.o1.below hb, h.o2.below hb, h.o3.below hb, h.o4.below hb, h.d01, h.d02, h.d03, h.d04, h.d12, h.d13, h.d14, h.d23, h.d24, h.d34⟩
theorem O5.set {g j : Nat} {v : Value} (h : O5 W B v0 v1 v2 v3 v4 S0 S1 I2 I3 I4) (hg : g < B) : O5 (W.setCell ⟨g, j, none⟩ v) B v0 v1 v2 v3 v4 S0 S1 I2 I3 I4 :=
 ⟨own_keptSp h.o0 fun k cur e hk => (Below.heap_setCell _ _ _ _ (show k ≠ g by have := (h.o0.lt k e).1; omega)).trans hk, own_keptSp h.o1 fun k cur e hk => (Below.heap_setCell _ _ _ _ (show k ≠ g by have := (h.o1.lt k e).1; omega)).trans hk,
  own_keptI h.o2 fun k cur e hk => (Below.heap_setCell _ _ _ _ (show k ≠ g by have := (h.o2.lt k e).1; omega)).trans hk, own_keptI h.o3 fun k cur e hk => (Below.heap_setCell _ _ _ _ (show k ≠ g by have := (h.o3.lt k e).1; omega)).trans hk, own_keptI h.o4 fun k cur e hk => (Below.heap_setCell _ _ _ _ (show k ≠ g by have := (h.o4.lt k e).1; omega)).trans hk, h.d01, h.d02, h.d03, h.d04, h.d12, h.d13, h.d14, h.d23, h.d24, h.d34⟩
/-- Rows of an earlier world stay. -/
theorem O5.keep (h : O5 wO B v0 v1 v2 v3 v4 S0 S1 I2 I3 I4) (hk : KeepF B wO W) : O5 W B v0 v1 v2 v3 v4 S0 S1 I2 I3 I4 :=
 ⟨own_keptSp h.o0 fun k cur e hj => hk k _ hj (h.o0.lt k e).1, own_keptSp h.o1 fun k cur e hj => hk k _ hj (h.o1.lt k e).1, own_keptI h.o2 fun k cur e hj => hk k _ hj (h.o2.lt k e).1, own_keptI h.o3 fun k cur e hj => hk k _ hj (h.o3.lt k e).1, own_keptI h.o4 fun k cur e hj => hk k _ hj (h.o4.lt k e).1, h.d01, h.d02, h.d03, h.d04, h.d12, h.d13, h.d14, h.d23, h.d24, h.d34⟩
theorem O5.app0 {x : S41} {v' : Value} (h : O5 W B v0 v1 v2 v3 v4 S0 S1 I2 I3 I4) (hO : OwnSp W' B v' (S0 ++ [x])) (hg : W.grownBy W' v0.ownBlock) (ho : v'.ownBlock = v0.ownBlock ∨ v'.ownBlock = some W.heap.size) : O5 W' B v' v1 v2 v3 v4 (S0 ++ [x]) S1 I2 I3 I4 where
 o0 := hO
 o1 := h.o1.grown hg (fun k hk e => dist_sym h.d01 k hk e)
 o2 := h.o2.grown hg (fun k hk e => dist_sym h.d02 k hk e)
 o3 := h.o3.grown hg (fun k hk e => dist_sym h.d03 k hk e)
 o4 := h.o4.grown hg (fun k hk e => dist_sym h.d04 k hk e)
 d01 := dist_app h.d01 ho (fun k hk => (h.o1.lt k hk).2)
 d02 := dist_app h.d02 ho (fun k hk => (h.o2.lt k hk).2)
 d03 := dist_app h.d03 ho (fun k hk => (h.o3.lt k hk).2)
 d04 := dist_app h.d04 ho (fun k hk => (h.o4.lt k hk).2)
 d12 := h.d12
 d13 := h.d13
 d14 := h.d14
 d23 := h.d23
 d24 := h.d24
 d34 := h.d34
theorem O5.app1 {x : S41} {v' : Value} (h : O5 W B v0 v1 v2 v3 v4 S0 S1 I2 I3 I4) (hO : OwnSp W' B v' (S1 ++ [x])) (hg : W.grownBy W' v1.ownBlock) (ho : v'.ownBlock = v1.ownBlock ∨ v'.ownBlock = some W.heap.size) : O5 W' B v0 v' v2 v3 v4 S0 (S1 ++ [x]) I2 I3 I4 where
 o0 := h.o0.grown hg (fun k hk e => h.d01 k hk e)
 o1 := hO
 o2 := h.o2.grown hg (fun k hk e => dist_sym h.d12 k hk e)
 o3 := h.o3.grown hg (fun k hk e => dist_sym h.d13 k hk e)
 o4 := h.o4.grown hg (fun k hk e => dist_sym h.d14 k hk e)
 d01 := dist_sym (dist_app (dist_sym h.d01) ho (fun k hk => (h.o0.lt k hk).2))
 d02 := h.d02
 d03 := h.d03
 d04 := h.d04
 d12 := dist_app h.d12 ho (fun k hk => (h.o2.lt k hk).2)
 d13 := dist_app h.d13 ho (fun k hk => (h.o3.lt k hk).2)
 d14 := dist_app h.d14 ho (fun k hk => (h.o4.lt k hk).2)
 d23 := h.d23
 d24 := h.d24
 d34 := h.d34
theorem O5.app234 {x y z : Int} {n2 n3 n4 : Value} (h : O5 W B v0 v1 v2 v3 v4 S0 S1 I2 I3 I4) (hO2 : OwnI W' B n2 (I2 ++ [x])) (hO3 : OwnI W' B n3 (I3 ++ [y])) (hO4 : OwnI W' B n4 (I4 ++ [z])) (d23 : ∀ k, n2.ownBlock = some k → n3.ownBlock ≠ some k) (d24 : ∀ k, n2.ownBlock = some k → n4.ownBlock ≠ some k) (d34 : ∀ k, n3.ownBlock = some k → n4.ownBlock ≠ some k) (e2 : n2.ownBlock = v2.ownBlock ∨ ∃ g, n2.ownBlock = some g ∧ W.heap.size ≤ g) (e3 : n3.ownBlock = v3.ownBlock ∨ ∃ g, n3.ownBlock = some g ∧ W.heap.size ≤ g) (e4 : n4.ownBlock = v4.ownBlock ∨ ∃ g, n4.ownBlock = some g ∧ W.heap.size ≤ g) (hk : Keep3 W W' v2 v3 v4) : O5 W' B v0 v1 n2 n3 n4 S0 S1 (I2 ++ [x]) (I3 ++ [y]) (I4 ++ [z]) where
 o0 := own_keptSp h.o0 fun j cur e hj => hk j _ hj (h.d02 j e) (h.d03 j e) (h.d04 j e)
 o1 := own_keptSp h.o1 fun j cur e hj => hk j _ hj (h.d12 j e) (h.d13 j e) (h.d14 j e)
 o2 := hO2
 o3 := hO3
 o4 := hO4
 d01 := h.d01
 d02 := dist_new h.d02 e2 (fun k hk => (h.o0.lt k hk).2)
 d03 := dist_new h.d03 e3 (fun k hk => (h.o0.lt k hk).2)
 d04 := dist_new h.d04 e4 (fun k hk => (h.o0.lt k hk).2)
 d12 := dist_new h.d12 e2 (fun k hk => (h.o1.lt k hk).2)
 d13 := dist_new h.d13 e3 (fun k hk => (h.o1.lt k hk).2)
 d14 := dist_new h.d14 e4 (fun k hk => (h.o1.lt k hk).2)
 d23 := d23
 d24 := d24
 d34 := d34
end
/-- One of the bytes told, as a number. -/
def pickN (l : List Int) (i n : Nat) : Nat := if l.length = 0 then 0 else (rd l ((i % l.length : Nat) : Int)).toNat % (n + 1)
theorem pick_N (l : List Int) (i n : Nat) : pickI l i n = (pickN l i n : Int) := by unfold pickI pickN; split <;> rfl
theorem pickN_le (l : List Int) (i n : Nat) : pickN l i n ≤ n := by
 have := (pickI_in l i n).2
 rw [pick_N] at this
 omega
theorem pick12_calls (A : Option Addr) (c : Nat) (l : List Int) (i : Nat) (r : Nat) (w : World) (hr : Kd.C (Kd.int .u8) w A l.length l) (hc : l.length ≤ c) (hl : ∀ x ∈ l, 0 ≤ x ∧ x ≤ 255) (hi : i ≤ 1000) (h : r = pickN l i 12) :
  Calls Try.prog 39 #[.slice A l.length c, .int .i64 (i : Int), .int .i64 12] w fun e w' => e = .returned (.int .i64 (r : Int)) ∧ Below w.heap.size w w' := by
 have := pick_calls A c l i 12 w hr hc hl hi (by omega)
 rw [pick_N, ← h] at this
 exact this
theorem pickn_calls (A : Option Addr) (c : Nat) (l : List Int) (i n : Nat) (r : Nat) (w : World) (hr : Kd.C (Kd.int .u8) w A l.length l) (hc : l.length ≤ c) (hl : ∀ x ∈ l, 0 ≤ x ∧ x ≤ 255) (hi : i ≤ 1000) (hn : n ≤ 1000) (h : r = pickN l i n) :
  Calls Try.prog 39 #[.slice A l.length c, .int .i64 (i : Int), .int .i64 (n : Int)] w fun e w' => e = .returned (.int .i64 (r : Int)) ∧ Below w.heap.size w w' := by
 have := pick_calls A c l i n w hr hc hl hi hn
 rw [pick_N, ← h] at this
 exact this
/-- How much wider a span is than what is told; how late the truth is. -/
def wdN (wide : List Int) (c0 j : Nat) : Nat := pickN wide (c0 + j) 12
def ltN (wide truth : List Int) (c0 j : Nat) : Nat := pickN truth (c0 + j) (wdN wide c0 j)
def spF (l wide : List Int) (c0 n : Nat) : List S41 := (List.range n).map fun j : Nat => (⟨rd l (j : Int), rd l (j : Int) + (wdN wide c0 j : Int)⟩ : S41)
def clF (l wide truth : List Int) (c0 n : Nat) : List S41 := (List.range n).map fun j : Nat => (⟨rd l (j : Int) + ((ltN wide truth c0 j / 2 : Nat) : Int), rd l (j : Int) + (ltN wide truth c0 j : Int)⟩ : S41)
def trF (l wide truth : List Int) (c0 n : Nat) : List Int := (List.range n).map fun j : Nat => rd l (j : Int) + (ltN wide truth c0 j : Int)
def loF (l : List Int) (n : Nat) : List Int := (List.range n).map fun j : Nat => rd l (j : Int)
def hiF (l wide : List Int) (c0 n : Nat) : List Int := (List.range n).map fun j : Nat => rd l (j : Int) + (wdN wide c0 j : Int)
theorem range_map1 {α : Type} (f : Nat → α) (n : Nat) : (List.range (n + 1)).map f = (List.range n).map f ++ [f n] := by rw [List.range_succ, List.map_append]; rfl
theorem range_len {α : Type} (f : Nat → α) (n : Nat) : ((List.range n).map f).length = n := by rw [List.length_map, List.length_range]
theorem range_rd (f : Nat → Int) (n : Nat) (i : Nat) (hi : i < n) : rd ((List.range n).map f) (i : Int) = f i := by
 unfold rd
 rw [Int.toNat_natCast, List.getD_eq_getElem?_getD, List.getElem?_map, List.getElem?_range hi]
 rfl
theorem hi_spF (l wide : List Int) (c0 n : Nat) : hiI (spF l wide c0 n) = hiF l wide c0 n := by unfold hiI spF hiF; rw [List.map_map]; rfl
theorem lo_spF (l wide : List Int) (c0 n : Nat) : loI (spF l wide c0 n) = loF l n := by unfold loI spF loF; rw [List.map_map]; rfl
theorem hi_clF (l wide truth : List Int) (c0 n : Nat) : hiI (clF l wide truth c0 n) = trF l wide truth c0 n := by unfold hiI clF trF; rw [List.map_map]; rfl
/-- Beats of rows that are told by place. -/
theorem beats_le (f f' g g' : Nat → Int) (n m : Nat) (hf : ∀ j, f' j ≤ f j) (hg : ∀ j, g j ≤ g' j) : beatsI ((List.range n).map f) ((List.range m).map g) ≤ beatsI ((List.range n).map f') ((List.range m).map g') :=
 beats_mono _ _ (by simp) (fun i hi => by
  have hi' : i < m := by simpa using hi
  rw [range_rd _ _ _ hi', range_rd _ _ _ hi']; exact hg i) _ _ (by simp) (fun i hi => by
  have hi' : i < n := by simpa using hi
  rw [range_rd _ _ _ hi', range_rd _ _ _ hi']; exact hf i)
theorem lt_wd (wide truth : List Int) (c0 j : Nat) : ltN wide truth c0 j ≤ wdN wide c0 j ∧ wdN wide c0 j ≤ 12 := ⟨pickN_le _ _ _, pickN_le _ _ _⟩
theorem wrong_no (f g : Nat → Int) (n : Nat) (h : ∀ j, j < n → -100000 ≤ f j ∧ f j ≤ g j ∧ g j ≤ 100000) : ((List.range n).map fun j => (⟨f j, g j⟩ : S41)).any wrongB = false := by
 rw [List.any_eq_false]
 intro s hs
 obtain ⟨j, hj, rfl⟩ := List.mem_map.1 hs
 have := h j (List.mem_range.1 hj)
 unfold wrongB isIn
 simp
 omega
theorem within_ok {a b : List S41} (ha : 1 ≤ a.length ∧ a.length ≤ 16) (hb : 1 ≤ b.length ∧ b.length ≤ 16) (h1 : a.any wrongB = false) (h2 : b.any wrongB = false) : hand_Within.f a b = some (beatsI (hiI a) (loI b), beatsI (loI a) (hiI b), 0) := by
 have : withinE a b = 0 := by
  unfold withinE
  rw [if_neg (by omega), if_neg (by omega), List.any_append, h1, h2]
  rfl
 unfold hand_Within.f
 rw [if_pos this]
/-- Whatever is true, the beats lie within the span. -/
theorem true_law (a b wide truth : List Int) (ha : 1 ≤ a.length ∧ a.length ≤ 5 ∧ ∀ x ∈ a, -3 ≤ x ∧ x ≤ 63) (hb : 1 ≤ b.length ∧ b.length ≤ 5 ∧ ∀ x ∈ b, -3 ≤ x ∧ x ≤ 63) (cA cB : Nat) :
  ∃ s0 s1 c0 c1 : Int, hand_Within.f (spF a wide cA a.length) (spF b wide cB b.length) = some (s0, s1, 0) ∧ hand_Within.f (clF a wide truth cA a.length) (clF b wide truth cB b.length) = some (c0, c1, 0) ∧
   beatsI (hiF a wide cA a.length) (loF b b.length) = s0 ∧ beatsI (loF a a.length) (hiF b wide cB b.length) = s1 ∧
   s0 ≤ beatsI (trF a wide truth cA a.length) (trF b wide truth cB b.length) ∧ beatsI (trF a wide truth cA a.length) (trF b wide truth cB b.length) ≤ s1 ∧ s0 ≤ c0 ∧ c1 ≤ s1 ∧ c0 ≤ beatsI (trF a wide truth cA a.length) (trF b wide truth cB b.length) ∧ beatsI (trF a wide truth cA a.length) (trF b wide truth cB b.length) ≤ c1 := by
 have hwA := fun j => lt_wd wide truth cA j
 have hwB := fun j => lt_wd wide truth cB j
 have ba : ∀ j, j < a.length → -3 ≤ rd a (j : Int) ∧ rd a (j : Int) ≤ 63 := fun j hj => ha.2.2 _ (rd_mem a hj)
 have bb : ∀ j, j < b.length → -3 ≤ rd b (j : Int) ∧ rd b (j : Int) ≤ 63 := fun j hj => hb.2.2 _ (rd_mem b hj)
 refine ⟨_, _, _, _, within_ok ?_ ?_ ?_ ?_, within_ok ?_ ?_ ?_ ?_, ?_, ?_, ?_, ?_, ?_, ?_, ?_, ?_⟩
 · unfold spF; rw [range_len]; omega
 · unfold spF; rw [range_len]; omega
 · exact wrong_no _ _ _ fun j hj => by have := ba j hj; have := hwA j; omega
 · exact wrong_no _ _ _ fun j hj => by have := bb j hj; have := hwB j; omega
 · unfold clF; rw [range_len]; omega
 · unfold clF; rw [range_len]; omega
 · exact wrong_no _ _ _ fun j hj => by have := ba j hj; have := hwA j; omega
 · exact wrong_no _ _ _ fun j hj => by have := bb j hj; have := hwB j; omega
 · rw [hi_spF, lo_spF]
 · rw [hi_spF, lo_spF]
 · rw [hi_spF, lo_spF]; unfold hiF loF trF; exact beats_le _ _ _ _ _ _ (fun j => by have := hwA j; omega) (fun j => by omega)
 · rw [hi_spF, lo_spF]; unfold hiF loF trF; exact beats_le _ _ _ _ _ _ (fun j => by omega) (fun j => by have := hwB j; omega)
 · rw [hi_spF, lo_spF, hi_clF]; unfold hiF loF trF loI clF; rw [List.map_map]; exact beats_le _ _ _ _ _ _ (fun j => by have := hwA j; omega) (fun j => by show _ ≤ rd b (j : Int) + _; omega)
 · rw [hi_spF, lo_spF, hi_clF]; unfold hiF loF trF loI clF; rw [List.map_map]; exact beats_le _ _ _ _ _ _ (fun j => by show _ ≤ rd a (j : Int) + _; omega) (fun j => by have := hwB j; omega)
 · rw [hi_clF]; unfold trF loI clF; rw [List.map_map]; exact beats_le _ _ _ _ _ _ (fun j => by omega) (fun j => by show rd b (j : Int) + _ ≤ _; omega)
 · rw [hi_clF]; unfold trF loI clF; rw [List.map_map]; exact beats_le _ _ _ _ _ _ (fun j => by show rd a (j : Int) + _ ≤ _; omega) (fun j => by omega)

end Go.Proofs.Ythddeillkdediaa.H

/- What a round of HandTrue knows. -/
namespace Go.Proofs.Ythddeillkdediaa.H
open Go.RowKit Go.Proofs.YthddeillkdediaaW.PrintWords Go.Proofs.YthddeillkdediaaW.PrintLast Go.Proofs.YthddeillkdediaaW.PrintMore
open Go.Shelf Go.Proofs.Ythddeillkdediaa.QA
set_option linter.unusedVariables false
set_option linter.unusedSimpArgs false


/-- Where the five pairs of rows lie. -/
structure G5 (lo B0 : Nat) (g10 g11 g12 g13 g14 g34 : Nat) : Prop where
 l : lo ≤ g10 ∧ lo ≤ g11 ∧ lo ≤ g12 ∧ lo ≤ g13 ∧ lo ≤ g14
 b : g10 < B0 ∧ g11 < B0 ∧ g12 < B0 ∧ g13 < B0 ∧ g14 < B0 ∧ g34 < B0
 n : g10 ≠ g11 ∧ g10 ≠ g12 ∧ g10 ≠ g13 ∧ g10 ≠ g14 ∧ g11 ≠ g12 ∧ g11 ≠ g13 ∧ g11 ≠ g14 ∧ g12 ≠ g13 ∧ g12 ≠ g14 ∧ g13 ≠ g14
 m : g10 ≠ g34 ∧ g11 ≠ g34 ∧ g12 ≠ g34 ∧ g13 ≠ g34 ∧ g14 ≠ g34
/-- The five pairs of rows, and the row that is gone through. -/
structure C5 (W : World) (g10 g11 g12 g13 g14 g34 : Nat) (ab : Array Value) (e0 f0 e1 f1 e2 f2 e3 f3 e4 f4 : Value) : Prop where
 c0 : W.heap[g10]? = some (.cells #[e0, f0] 68 (0, 0))
 c1 : W.heap[g11]? = some (.cells #[e1, f1] 68 (0, 0))
 c2 : W.heap[g12]? = some (.cells #[e2, f2] 63 (0, 0))
 c3 : W.heap[g13]? = some (.cells #[e3, f3] 63 (0, 0))
 c4 : W.heap[g14]? = some (.cells #[e4, f4] 63 (0, 0))
 k34 : W.heap[g34]? = some (.cells ab 22 (0, 0))
/-- What a round knows. -/
structure St (W wO w1 : World) (B0 : Nat) (g10 g11 g12 g13 g14 g34 : Nat) (ab : Array Value) (e0 f0 e1 f1 e2 f2 e3 f3 e4 f4 : Value) (v0 v1 v2 v3 v4 : Value) (S0 S1 : List S41) (I2 I3 I4 : List Int) : Prop where
 g : G5 w1.heap.size B0 g10 g11 g12 g13 g14 g34
 c : C5 W g10 g11 g12 g13 g14 g34 ab e0 f0 e1 f1 e2 f2 e3 f3 e4 f4
 kf : KeepF B0 wO W
 o : O5 W wO.heap.size v0 v1 v2 v3 v4 S0 S1 I2 I3 I4
 b : Below w1.heap.size w1 W
 s : B0 ≤ wO.heap.size ∧ wO.heap.size ≤ W.heap.size
section
variable {W W' wO w1 : World} {lo B B0 g10 g11 g12 g13 g14 g34 : Nat} {ab : Array Value} {e0 f0 e1 f1 e2 f2 e3 f3 e4 f4 v0 v1 v2 v3 v4 : Value} {S0 S1 : List S41} {I2 I3 I4 : List Int}
theorem C5.below (h : C5 W g10 g11 g12 g13 g14 g34 ab e0 f0 e1 f1 e2 f2 e3 f3 e4 f4) (hb : Below B W W') (hg : g10 < B ∧ g11 < B ∧ g12 < B ∧ g13 < B ∧ g14 < B ∧ g34 < B) : C5 W' g10 g11 g12 g13 g14 g34 ab e0 f0 e1 f1 e2 f2 e3 f3 e4 f4 :=
 ⟨(hb.block _ hg.1).trans h.c0, (hb.block _ hg.2.1).trans h.c1, (hb.block _ hg.2.2.1).trans h.c2, (hb.block _ hg.2.2.2.1).trans h.c3, (hb.block _ hg.2.2.2.2.1).trans h.c4, (hb.block _ hg.2.2.2.2.2).trans h.k34⟩
theorem C5.set00 {v : Value} (h : C5 W g10 g11 g12 g13 g14 g34 ab e0 f0 e1 f1 e2 f2 e3 f3 e4 f4) (hg : G5 lo B0 g10 g11 g12 g13 g14 g34) : C5 (W.setCell ⟨g10, 0, none⟩ v) g10 g11 g12 g13 g14 g34 ab v f0 e1 f1 e2 f2 e3 f3 e4 f4 :=
 ⟨blk_set h.c0 0 v, blk_far h.c1 (show g11 ≠ g10 by have := hg.n; omega) v, blk_far h.c2 (show g12 ≠ g10 by have := hg.n; omega) v, blk_far h.c3 (show g13 ≠ g10 by have := hg.n; omega) v, blk_far h.c4 (show g14 ≠ g10 by have := hg.n; omega) v, blk_far h.k34 (show g34 ≠ g10 by have := hg.m; omega) v⟩
theorem C5.set01 {v : Value} (h : C5 W g10 g11 g12 g13 g14 g34 ab e0 f0 e1 f1 e2 f2 e3 f3 e4 f4) (hg : G5 lo B0 g10 g11 g12 g13 g14 g34) : C5 (W.setCell ⟨g10, 1, none⟩ v) g10 g11 g12 g13 g14 g34 ab e0 v e1 f1 e2 f2 e3 f3 e4 f4 :=
 ⟨blk_set h.c0 1 v, blk_far h.c1 (show g11 ≠ g10 by have := hg.n; omega) v, blk_far h.c2 (show g12 ≠ g10 by have := hg.n; omega) v, blk_far h.c3 (show g13 ≠ g10 by have := hg.n; omega) v, blk_far h.c4 (show g14 ≠ g10 by have := hg.n; omega) v, blk_far h.k34 (show g34 ≠ g10 by have := hg.m; omega) v⟩
theorem C5.set10 {v : Value} (h : C5 W g10 g11 g12 g13 g14 g34 ab e0 f0 e1 f1 e2 f2 e3 f3 e4 f4) (hg : G5 lo B0 g10 g11 g12 g13 g14 g34) : C5 (W.setCell ⟨g11, 0, none⟩ v) g10 g11 g12 g13 g14 g34 ab e0 f0 v f1 e2 f2 e3 f3 e4 f4 :=
 ⟨blk_far h.c0 (show g10 ≠ g11 by have := hg.n; omega) v, blk_set h.c1 0 v, blk_far h.c2 (show g12 ≠ g11 by have := hg.n; omega) v, blk_far h.c3 (show g13 ≠ g11 by have := hg.n; omega) v, blk_far h.c4 (show g14 ≠ g11 by have := hg.n; omega) v, blk_far h.k34 (show g34 ≠ g11 by have := hg.m; omega) v⟩
theorem C5.set11 {v : Value} (h : C5 W g10 g11 g12 g13 g14 g34 ab e0 f0 e1 f1 e2 f2 e3 f3 e4 f4) (hg : G5 lo B0 g10 g11 g12 g13 g14 g34) : C5 (W.setCell ⟨g11, 1, none⟩ v) g10 g11 g12 g13 g14 g34 ab e0 f0 e1 v e2 f2 e3 f3 e4 f4 :=
 ⟨blk_far h.c0 (show g10 ≠ g11 by have := hg.n; omega) v, blk_set h.c1 1 v, blk_far h.c2 (show g12 ≠ g11 by have := hg.n; omega) v, blk_far h.c3 (show g13 ≠ g11 by have := hg.n; omega) v, blk_far h.c4 (show g14 ≠ g11 by have := hg.n; omega) v, blk_far h.k34 (show g34 ≠ g11 by have := hg.m; omega) v⟩
theorem C5.set20 {v : Value} (h : C5 W g10 g11 g12 g13 g14 g34 ab e0 f0 e1 f1 e2 f2 e3 f3 e4 f4) (hg : G5 lo B0 g10 g11 g12 g13 g14 g34) : C5 (W.setCell ⟨g12, 0, none⟩ v) g10 g11 g12 g13 g14 g34 ab e0 f0 e1 f1 v f2 e3 f3 e4 f4 :=
 ⟨blk_far h.c0 (show g10 ≠ g12 by have := hg.n; omega) v, blk_far h.c1 (show g11 ≠ g12 by have := hg.n; omega) v, blk_set h.c2 0 v, blk_far h.c3 (show g13 ≠ g12 by have := hg.n; omega) v, blk_far h.c4 (show g14 ≠ g12 by have := hg.n; omega) v, blk_far h.k34 (show g34 ≠ g12 by have := hg.m; omega) v⟩
theorem C5.set21 {v : Value} (h : C5 W g10 g11 g12 g13 g14 g34 ab e0 f0 e1 f1 e2 f2 e3 f3 e4 f4) (hg : G5 lo B0 g10 g11 g12 g13 g14 g34) : C5 (W.setCell ⟨g12, 1, none⟩ v) g10 g11 g12 g13 g14 g34 ab e0 f0 e1 f1 e2 v e3 f3 e4 f4 :=
 ⟨blk_far h.c0 (show g10 ≠ g12 by have := hg.n; omega) v, blk_far h.c1 (show g11 ≠ g12 by have := hg.n; omega) v, blk_set h.c2 1 v, blk_far h.c3 (show g13 ≠ g12 by have := hg.n; omega) v, blk_far h.c4 (show g14 ≠ g12 by have := hg.n; omega) v, blk_far h.k34 (show g34 ≠ g12 by have := hg.m; omega) v⟩
theorem C5.set30 {v : Value} (h : C5 W g10 g11 g12 g13 g14 g34 ab e0 f0 e1 f1 e2 f2 e3 f3 e4 f4) (hg : G5 lo B0 g10 g11 g12 g13 g14 g34) : C5 (W.setCell ⟨g13, 0, none⟩ v) g10 g11 g12 g13 g14 g34 ab e0 f0 e1 f1 e2 f2 v f3 e4 f4 :=
 ⟨blk_far h.c0 (show g10 ≠ g13 by have := hg.n; omega) v, blk_far h.c1 (show g11 ≠ g13 by have := hg.n; omega) v, blk_far h.c2 (show g12 ≠ g13 by have := hg.n; omega) v, blk_set h.c3 0 v, blk_far h.c4 (show g14 ≠ g13 by have := hg.n; omega) v, blk_far h.k34 (show g34 ≠ g13 by have := hg.m; omega) v⟩
theorem C5.set31 {v : Value} (h : C5 W g10 g11 g12 g13 g14 g34 ab e0 f0 e1 f1 e2 f2 e3 f3 e4 f4) (hg : G5 lo B0 g10 g11 g12 g13 g14 g34) : C5 (W.setCell ⟨g13, 1, none⟩ v) g10 g11 g12 g13 g14 g34 ab e0 f0 e1 f1 e2 f2 e3 v e4 f4 :=
 ⟨blk_far h.c0 (show g10 ≠ g13 by have := hg.n; omega) v, blk_far h.c1 (show g11 ≠ g13 by have := hg.n; omega) v, blk_far h.c2 (show g12 ≠ g13 by have := hg.n; omega) v, blk_set h.c3 1 v, blk_far h.c4 (show g14 ≠ g13 by have := hg.n; omega) v, blk_far h.k34 (show g34 ≠ g13 by have := hg.m; omega) v⟩
theorem C5.set40 {v : Value} (h : C5 W g10 g11 g12 g13 g14 g34 ab e0 f0 e1 f1 e2 f2 e3 f3 e4 f4) (hg : G5 lo B0 g10 g11 g12 g13 g14 g34) : C5 (W.setCell ⟨g14, 0, none⟩ v) g10 g11 g12 g13 g14 g34 ab e0 f0 e1 f1 e2 f2 e3 f3 v f4 :=
 ⟨blk_far h.c0 (show g10 ≠ g14 by have := hg.n; omega) v, blk_far h.c1 (show g11 ≠ g14 by have := hg.n; omega) v, blk_far h.c2 (show g12 ≠ g14 by have := hg.n; omega) v, blk_far h.c3 (show g13 ≠ g14 by have := hg.n; omega) v, blk_set h.c4 0 v, blk_far h.k34 (show g34 ≠ g14 by have := hg.m; omega) v⟩
theorem C5.set41 {v : Value} (h : C5 W g10 g11 g12 g13 g14 g34 ab e0 f0 e1 f1 e2 f2 e3 f3 e4 f4) (hg : G5 lo B0 g10 g11 g12 g13 g14 g34) : C5 (W.setCell ⟨g14, 1, none⟩ v) g10 g11 g12 g13 g14 g34 ab e0 f0 e1 f1 e2 f2 e3 f3 e4 v :=
 ⟨blk_far h.c0 (show g10 ≠ g14 by have := hg.n; omega) v, blk_far h.c1 (show g11 ≠ g14 by have := hg.n; omega) v, blk_far h.c2 (show g12 ≠ g14 by have := hg.n; omega) v, blk_far h.c3 (show g13 ≠ g14 by have := hg.n; omega) v, blk_set h.c4 1 v, blk_far h.k34 (show g34 ≠ g14 by have := hg.m; omega) v⟩
theorem C5.lt (hg : G5 lo B0 g10 g11 g12 g13 g14 g34) (h : B0 ≤ B) : g10 < B ∧ g11 < B ∧ g12 < B ∧ g13 < B ∧ g14 < B ∧ g34 < B := by have := hg.b; omega
theorem St.below (h : St W wO w1 B0 g10 g11 g12 g13 g14 g34 ab e0 f0 e1 f1 e2 f2 e3 f3 e4 f4 v0 v1 v2 v3 v4 S0 S1 I2 I3 I4) (hb : Below W.heap.size W W') : St W' wO w1 B0 g10 g11 g12 g13 g14 g34 ab e0 f0 e1 f1 e2 f2 e3 f3 e4 f4 v0 v1 v2 v3 v4 S0 S1 I2 I3 I4 :=
 ⟨h.g, h.c.below hb (C5.lt h.g (Nat.le_trans h.s.1 h.s.2)), h.kf.below (hb.mono h.s.2), h.o.below hb, h.b.trans (hb.mono h.b.size), h.s.1, Nat.le_trans h.s.2 hb.size⟩
theorem St.app0 {v' : Value} {x : S41} (h : St W wO w1 B0 g10 g11 g12 g13 g14 g34 ab e0 f0 e1 f1 e2 f2 e3 f3 e4 f4 v0 v1 v2 v3 v4 S0 S1 I2 I3 I4) (hO : OwnSp W' wO.heap.size v' (S0 ++ [x])) (hb : Below wO.heap.size W W') (hg : W.grownBy W' v0.ownBlock) (ho : v'.ownBlock = v0.ownBlock ∨ v'.ownBlock = some W.heap.size) : St W' wO w1 B0 g10 g11 g12 g13 g14 g34 ab e0 f0 e1 f1 e2 f2 e3 f3 e4 f4 v' v1 v2 v3 v4 (S0 ++ [x]) S1 I2 I3 I4 :=
 ⟨h.g, h.c.below hb (C5.lt h.g h.s.1), h.kf.below hb, h.o.app0 hO hg ho, h.b.trans (hb.mono (by have := h.g.l; have := h.g.b; have := h.s; omega)), h.s.1, Nat.le_trans h.s.2 hb.size⟩
theorem St.app1 {v' : Value} {x : S41} (h : St W wO w1 B0 g10 g11 g12 g13 g14 g34 ab e0 f0 e1 f1 e2 f2 e3 f3 e4 f4 v0 v1 v2 v3 v4 S0 S1 I2 I3 I4) (hO : OwnSp W' wO.heap.size v' (S1 ++ [x])) (hb : Below wO.heap.size W W') (hg : W.grownBy W' v1.ownBlock) (ho : v'.ownBlock = v1.ownBlock ∨ v'.ownBlock = some W.heap.size) : St W' wO w1 B0 g10 g11 g12 g13 g14 g34 ab e0 f0 e1 f1 e2 f2 e3 f3 e4 f4 v0 v' v2 v3 v4 S0 (S1 ++ [x]) I2 I3 I4 :=
 ⟨h.g, h.c.below hb (C5.lt h.g h.s.1), h.kf.below hb, h.o.app1 hO hg ho, h.b.trans (hb.mono (by have := h.g.l; have := h.g.b; have := h.s; omega)), h.s.1, Nat.le_trans h.s.2 hb.size⟩
theorem St.app234 {x y z : Int} {n2 n3 n4 : Value} (h : St W wO w1 B0 g10 g11 g12 g13 g14 g34 ab e0 f0 e1 f1 e2 f2 e3 f3 e4 f4 v0 v1 v2 v3 v4 S0 S1 I2 I3 I4) (hb : Below wO.heap.size W W') (ho : O5 W' wO.heap.size v0 v1 n2 n3 n4 S0 S1 (I2 ++ [x]) (I3 ++ [y]) (I4 ++ [z])) : St W' wO w1 B0 g10 g11 g12 g13 g14 g34 ab e0 f0 e1 f1 e2 f2 e3 f3 e4 f4 v0 v1 n2 n3 n4 S0 S1 (I2 ++ [x]) (I3 ++ [y]) (I4 ++ [z]) :=
 ⟨h.g, h.c.below hb (C5.lt h.g h.s.1), h.kf.below hb, ho, h.b.trans (hb.mono (by have := h.g.l; have := h.g.b; have := h.s; omega)), h.s.1, Nat.le_trans h.s.2 hb.size⟩
theorem St.set00 {v : Value} (h : St W wO w1 B0 g10 g11 g12 g13 g14 g34 ab e0 f0 e1 f1 e2 f2 e3 f3 e4 f4 v0 v1 v2 v3 v4 S0 S1 I2 I3 I4) : St (W.setCell ⟨g10, 0, none⟩ v) wO w1 B0 g10 g11 g12 g13 g14 g34 ab v f0 e1 f1 e2 f2 e3 f3 e4 f4 v0 v1 v2 v3 v4 S0 S1 I2 I3 I4 :=
 ⟨h.g, h.c.set00 h.g, h.kf.set (by have := h.g.b; omega), h.o.set (by have := h.g.b; have := h.s; omega), below_set h.b (by have := h.g.l; omega), h.s.1, by rw [World.size_setCell]; exact h.s.2⟩
theorem St.set01 {v : Value} (h : St W wO w1 B0 g10 g11 g12 g13 g14 g34 ab e0 f0 e1 f1 e2 f2 e3 f3 e4 f4 v0 v1 v2 v3 v4 S0 S1 I2 I3 I4) : St (W.setCell ⟨g10, 1, none⟩ v) wO w1 B0 g10 g11 g12 g13 g14 g34 ab e0 v e1 f1 e2 f2 e3 f3 e4 f4 v0 v1 v2 v3 v4 S0 S1 I2 I3 I4 :=
 ⟨h.g, h.c.set01 h.g, h.kf.set (by have := h.g.b; omega), h.o.set (by have := h.g.b; have := h.s; omega), below_set h.b (by have := h.g.l; omega), h.s.1, by rw [World.size_setCell]; exact h.s.2⟩
theorem St.set10 {v : Value} (h : St W wO w1 B0 g10 g11 g12 g13 g14 g34 ab e0 f0 e1 f1 e2 f2 e3 f3 e4 f4 v0 v1 v2 v3 v4 S0 S1 I2 I3 I4) : St (W.setCell ⟨g11, 0, none⟩ v) wO w1 B0 g10 g11 g12 g13 g14 g34 ab e0 f0 v f1 e2 f2 e3 f3 e4 f4 v0 v1 v2 v3 v4 S0 S1 I2 I3 I4 :=
 ⟨h.g, h.c.set10 h.g, h.kf.set (by have := h.g.b; omega), h.o.set (by have := h.g.b; have := h.s; omega), below_set h.b (by have := h.g.l; omega), h.s.1, by rw [World.size_setCell]; exact h.s.2⟩
theorem St.set11 {v : Value} (h : St W wO w1 B0 g10 g11 g12 g13 g14 g34 ab e0 f0 e1 f1 e2 f2 e3 f3 e4 f4 v0 v1 v2 v3 v4 S0 S1 I2 I3 I4) : St (W.setCell ⟨g11, 1, none⟩ v) wO w1 B0 g10 g11 g12 g13 g14 g34 ab e0 f0 e1 v e2 f2 e3 f3 e4 f4 v0 v1 v2 v3 v4 S0 S1 I2 I3 I4 :=
 ⟨h.g, h.c.set11 h.g, h.kf.set (by have := h.g.b; omega), h.o.set (by have := h.g.b; have := h.s; omega), below_set h.b (by have := h.g.l; omega), h.s.1, by rw [World.size_setCell]; exact h.s.2⟩
theorem St.set20 {v : Value} (h : St W wO w1 B0 g10 g11 g12 g13 g14 g34 ab e0 f0 e1 f1 e2 f2 e3 f3 e4 f4 v0 v1 v2 v3 v4 S0 S1 I2 I3 I4) : St (W.setCell ⟨g12, 0, none⟩ v) wO w1 B0 g10 g11 g12 g13 g14 g34 ab e0 f0 e1 f1 v f2 e3 f3 e4 f4 v0 v1 v2 v3 v4 S0 S1 I2 I3 I4 :=
 ⟨h.g, h.c.set20 h.g, h.kf.set (by have := h.g.b; omega), h.o.set (by have := h.g.b; have := h.s; omega), below_set h.b (by have := h.g.l; omega), h.s.1, by rw [World.size_setCell]; exact h.s.2⟩
theorem St.set21 {v : Value} (h : St W wO w1 B0 g10 g11 g12 g13 g14 g34 ab e0 f0 e1 f1 e2 f2 e3 f3 e4 f4 v0 v1 v2 v3 v4 S0 S1 I2 I3 I4) : St (W.setCell ⟨g12, 1, none⟩ v) wO w1 B0 g10 g11 g12 g13 g14 g34 ab e0 f0 e1 f1 e2 v e3 f3 e4 f4 v0 v1 v2 v3 v4 S0 S1 I2 I3 I4 :=
 ⟨h.g, h.c.set21 h.g, h.kf.set (by have := h.g.b; omega), h.o.set (by have := h.g.b; have := h.s; omega), below_set h.b (by have := h.g.l; omega), h.s.1, by rw [World.size_setCell]; exact h.s.2⟩
theorem St.set30 {v : Value} (h : St W wO w1 B0 g10 g11 g12 g13 g14 g34 ab e0 f0 e1 f1 e2 f2 e3 f3 e4 f4 v0 v1 v2 v3 v4 S0 S1 I2 I3 I4) : St (W.setCell ⟨g13, 0, none⟩ v) wO w1 B0 g10 g11 g12 g13 g14 g34 ab e0 f0 e1 f1 e2 f2 v f3 e4 f4 v0 v1 v2 v3 v4 S0 S1 I2 I3 I4 :=
 ⟨h.g, h.c.set30 h.g, h.kf.set (by have := h.g.b; omega), h.o.set (by have := h.g.b; have := h.s; omega), below_set h.b (by have := h.g.l; omega), h.s.1, by rw [World.size_setCell]; exact h.s.2⟩
theorem St.set31 {v : Value} (h : St W wO w1 B0 g10 g11 g12 g13 g14 g34 ab e0 f0 e1 f1 e2 f2 e3 f3 e4 f4 v0 v1 v2 v3 v4 S0 S1 I2 I3 I4) : St (W.setCell ⟨g13, 1, none⟩ v) wO w1 B0 g10 g11 g12 g13 g14 g34 ab e0 f0 e1 f1 e2 f2 e3 v e4 f4 v0 v1 v2 v3 v4 S0 S1 I2 I3 I4 :=
 ⟨h.g, h.c.set31 h.g, h.kf.set (by have := h.g.b; omega), h.o.set (by have := h.g.b; have := h.s; omega), below_set h.b (by have := h.g.l; omega), h.s.1, by rw [World.size_setCell]; exact h.s.2⟩
theorem St.set40 {v : Value} (h : St W wO w1 B0 g10 g11 g12 g13 g14 g34 ab e0 f0 e1 f1 e2 f2 e3 f3 e4 f4 v0 v1 v2 v3 v4 S0 S1 I2 I3 I4) : St (W.setCell ⟨g14, 0, none⟩ v) wO w1 B0 g10 g11 g12 g13 g14 g34 ab e0 f0 e1 f1 e2 f2 e3 f3 v f4 v0 v1 v2 v3 v4 S0 S1 I2 I3 I4 :=
 ⟨h.g, h.c.set40 h.g, h.kf.set (by have := h.g.b; omega), h.o.set (by have := h.g.b; have := h.s; omega), below_set h.b (by have := h.g.l; omega), h.s.1, by rw [World.size_setCell]; exact h.s.2⟩
theorem St.set41 {v : Value} (h : St W wO w1 B0 g10 g11 g12 g13 g14 g34 ab e0 f0 e1 f1 e2 f2 e3 f3 e4 f4 v0 v1 v2 v3 v4 S0 S1 I2 I3 I4) : St (W.setCell ⟨g14, 1, none⟩ v) wO w1 B0 g10 g11 g12 g13 g14 g34 ab e0 f0 e1 f1 e2 f2 e3 f3 e4 v v0 v1 v2 v3 v4 S0 S1 I2 I3 I4 :=
 ⟨h.g, h.c.set41 h.g, h.kf.set (by have := h.g.b; omega), h.o.set (by have := h.g.b; have := h.s; omega), below_set h.b (by have := h.g.l; omega), h.s.1, by rw [World.size_setCell]; exact h.s.2⟩
theorem OwnSp.form {v : Value} {xs : List S41} (h : OwnSp W B v xs) (hx : 0 < xs.length) : ∃ g cap, v = .slice (some ⟨g, 0, none⟩) xs.length cap := by
 rcases h.2 with ⟨h3, h4⟩ | ⟨g, cap, cur, rfl, _⟩
 · omega
 · exact ⟨g, cap, rfl⟩
theorem OwnI.form {v : Value} {xs : List Int} (h : OwnI W B v xs) (hx : 0 < xs.length) : ∃ g cap, v = .slice (some ⟨g, 0, none⟩) xs.length cap := by
 rcases h.2 with ⟨h3, h4⟩ | ⟨g, cap, cur, rfl, _⟩
 · omega
 · exact ⟨g, cap, rfl⟩
theorem OwnSp.mono {v : Value} {xs : List S41} (h : OwnSp W B v xs) (hb : B0 ≤ B) : OwnSp W B0 v xs := by
 obtain ⟨h1, h2⟩ := h
 refine ⟨h1, ?_⟩
 rcases h2 with h2 | ⟨g, cap, cur, rfl, h4, h5, h6⟩
 · exact .inl h2
 · exact .inr ⟨g, cap, cur, rfl, Nat.le_trans hb h4, h5, h6⟩
theorem OwnI.mono {v : Value} {xs : List Int} (h : OwnI W B v xs) (hb : B0 ≤ B) : OwnI W B0 v xs := by
 obtain ⟨h1, h2⟩ := h
 refine ⟨h1, ?_⟩
 rcases h2 with h2 | ⟨g, cap, cur, rfl, h4, h5, h6⟩
 · exact .inl h2
 · exact .inr ⟨g, cap, cur, rfl, Nat.le_trans hb h4, h5, h6⟩
theorem O5.mono (h : O5 W B v0 v1 v2 v3 v4 S0 S1 I2 I3 I4) (hb : B0 ≤ B) : O5 W B0 v0 v1 v2 v3 v4 S0 S1 I2 I3 I4 :=
 ⟨h.o0.mono hb, h.o1.mono hb, h.o2.mono hb, h.o3.mono hb, h.o4.mono hb, h.d01, h.d02, h.d03, h.d04, h.d12, h.d13, h.d14, h.d23, h.d24, h.d34⟩
end

end Go.Proofs.Ythddeillkdediaa.H
