/- The table of two rolls: its pairs, their distances; newTable, Distance. -/
import Derived.Test.YtkocigldchiifaaH1
import Derived.Test.YtkocigldchiifaaHD
namespace Go.Proofs.Ytkocigldchiifaa.H
open Go.RowKit Go.Proofs.YtkocigldchiifaaW.PrintWords Go.Proofs.YtkocigldchiifaaW.PrintLast Go.Proofs.YtkocigldchiifaaW.PrintMore
open Go.Shelf Go.Proofs.Ytkocigldchiifaa.QA
set_option linter.unusedVariables false
set_option linter.unusedSimpArgs false

def far1_T : Bool × List (List Nat × List Nat) := (true, [([], []), ([0], [0]), ([1], [1]), ([2], [2]), ([], []), ([4], [4]), ([3, 5], [3, 5]), ([6], [6]), ([], []), ([8], [8]), ([9], [9]), ([10], [10]), ([], []), ([12], [12]), ([11, 13], [11, 13]), ([14], [14]), ([], []), ([], []), ([16, 7, 0, 1, 2, 3, 4, 5, 6, 7, 16, 17], [7, 16]), ([17, 15, 18, 0, 1, 2, 3, 4, 5, 6, 7, 8, 9, 10, 11, 12, 13, 14, 15, 16, 17, 18], [15, 17])])
def far1_B : List Nat := [0, 1, 3, 7, 0, 16, 63, 127, 0, 256, 768, 1792, 0, 4096, 16128, 32512, 0, 0, 196863, 524287]
theorem far1_tab : rtab .any (opsOf Try.f47 1) = far1_T := by kernel_rfl
theorem far1_bits : waitsOk far1_T.2 far1_B = true := by kernel_rfl

def apartD (a b : Int) : Int := mx (a - b) (b - a)
/-- The distance of two events. -/
def farD (x y : S59) : Int := if x.f0 = y.f0 then apartD x.f1 y.f1 + apartD x.f2 y.f2 else 1000000
theorem apartD_in (a b : Int) (n : Int) (ha : 0 ≤ a ∧ a ≤ n) (hb : 0 ≤ b ∧ b ≤ n) : 0 ≤ apartD a b ∧ apartD a b ≤ n := by
 unfold apartD mx
 split <;> omega
section
attribute [local go_sem] max2_int min2_int max_two min_two max_three min_three max_four min_four
theorem apart_calls (a b : Int) (w : World) (ha : -1000000 ≤ a ∧ a ≤ 1000000) (hb : -1000000 ≤ b ∧ b ≤ 1000000) : Calls Try.prog 70 #[.int .i64 a, .int .i64 b] w fun e w' => e = .returned (.int .i64 (apartD a b)) ∧ w' = w := by
 obtain ⟨r, hr⟩ : ∃ r, r = apartD a b := ⟨_, rfl⟩
 rw [← hr]
 have e1 : wrap64 (a - b) = a - b := w64' _ (by omega) (by omega)
 have e2 : wrap64 (b - a) = b - a := w64' _ (by omega) (by omega)
 unfold apartD mx at hr
 have HH := Aside0.mk hr
 clear hr
 go_enter Try.func70, Try.ntmps70
 go_wp2
 all_goals
  go_ret
  refine ⟨?_, rfl⟩
  rw [HH.out]
  first | (rw [if_pos (by omega)]; rfl) | (rw [if_neg (by omega)]; rfl)
end
/-- A table: two rolls, that lie somewhere, and the numbers of their last events. -/
def Tb (w : World) (g : Nat) (a b : List S59) : Prop := ∃ A0 c0 A1 c1, w.heap[g]? = some (.cells #[.slice A0 a.length c0, .slice A1 b.length c1, .int .i64 ((a.length : Int) - 1), .int .i64 ((b.length : Int) - 1)] 92 (0, 0)) ∧ Kd.C k59 w A0 a.length a ∧ Kd.C k59 w A1 b.length b
theorem Tb.below {w w' : World} {g : Nat} {a b : List S59} (h : Tb w g a b) (hb : Below w.heap.size w w') : Tb w' g a b := by
 obtain ⟨A0, c0, A1, c1, h1, h2, h3⟩ := h
 exact ⟨A0, c0, A1, c1, blk_below h1 hb, Kd.C_below h2 hb, Kd.C_below h3 hb⟩
theorem Tb.lt {w : World} {g : Nat} {a b : List S59} (h : Tb w g a b) : g < w.heap.size := by
 obtain ⟨A0, c0, A1, c1, h1, h2, h3⟩ := h
 exact blk_lt h1
/-- The rolls are as stated. -/
structure Rolls (a b : List S59) : Prop where
 ha : 1 ≤ a.length ∧ a.length ≤ 30
 hb : 1 ≤ b.length ∧ b.length ≤ 30
 ga : ∀ x ∈ a, goodB x = true
 gb : ∀ x ∈ b, goodB x = true
theorem good_in {x : S59} (h : goodB x = true) : (1 ≤ x.f0 ∧ x.f0 ≤ 88) ∧ (0 ≤ x.f1 ∧ x.f1 ≤ 1000) ∧ (0 ≤ x.f2 ∧ x.f2 ≤ 1000) := by
 unfold goodB isIn at h
 simp only [Bool.and_eq_true, decide_eq_true_iff] at h
 exact ⟨h.1, h.2.1, h.2.2⟩
theorem far_in {x y : S59} (hx : goodB x = true) (hy : goodB y = true) : 0 ≤ farD x y ∧ farD x y ≤ 1000000 := by
 obtain ⟨_, h2, h3⟩ := good_in hx
 obtain ⟨_, h5, h6⟩ := good_in hy
 unfold farD
 split
 · have q1 := apartD_in x.f1 y.f1 1000 h2 h5
   have q2 := apartD_in x.f2 y.f2 1000 h3 h6
   omega
 · omega
theorem chk_zero {l : List S59} (h : chk l = 0) : (1 ≤ l.length ∧ l.length ≤ 30) ∧ ∀ x ∈ l, goodB x = true := by
 unfold chk at h
 split at h
 · cases h
 · split at h
   · cases h
   · split at h
     · cases h
     · rename_i h0 h1 h2
       refine ⟨by omega, fun x hx => ?_⟩
       cases hg : goodB x with
       | true => rfl
       | false => exact absurd (List.any_eq_true.2 ⟨x, hx, by rw [hg]; rfl⟩) h2
theorem rolls_of {a b : List S59} (h : align_Check.f a b = some 0) : Rolls a b := by
 unfold align_Check.f at h
 have h1 := Option.some.inj h
 by_cases h0 : chk a = 0
 · rw [if_pos h0] at h1
   exact ⟨(chk_zero h0).1, (chk_zero h1).1, (chk_zero h0).2, (chk_zero h1).2⟩
 · rw [if_neg h0] at h1
   exact absurd h1 h0
/-- A pair is one of the table's. -/
def hasP (a b : List S59) (i k : Int) : Bool := isIn 0 i ((a.length : Int) - 1) && isIn 0 k ((b.length : Int) - 1)
theorem hasP_iff (a b : List S59) (i k : Int) : hasP a b i k = true ↔ (0 ≤ i ∧ i < a.length) ∧ (0 ≤ k ∧ k < b.length) := by
 unfold hasP isIn
 simp only [Bool.and_eq_true, decide_eq_true_iff]
 constructor
 · rintro ⟨h1, h2⟩; omega
 · rintro ⟨h1, h2⟩; omega

set_option maxRecDepth 100000 in
theorem has_calls (g : Nat) (a b : List S59) (i k : Int) (w : World) (h : Tb w g a b) :
  Calls Try.prog 46 #[.pointer (some ⟨g, 0, none⟩), .agg #[.int .i64 i, .int .i64 k]] w fun e w' => e = .returned (.bool (hasP a b i k)) ∧ Below w.heap.size w w' := by
 have hu25 := Try.underlying25
 have hlt := h.lt
 obtain ⟨A0, c0, A1, c1, h1, _, _⟩ := h
 have k2 : w.cell? ⟨g, 2, none⟩ = some (.int .i64 ((a.length : Int) - 1)) := (blk_cell h1 2).trans rfl
 have k3 : w.cell? ⟨g, 3, none⟩ = some (.int .i64 ((b.length : Int) - 1)) := (blk_cell h1 3).trans rfl
 clear h1
 obtain ⟨la, hla⟩ : ∃ la, la = (a.length : Int) - 1 := ⟨_, rfl⟩
 obtain ⟨lb, hlb⟩ : ∃ lb, lb = (b.length : Int) - 1 := ⟨_, rfl⟩
 unfold hasP
 rw [← hla, ← hlb]
 rw [← hla] at k2
 rw [← hlb] at k3
 clear hla hlb
 have hb := below_alloc (Below.refl w.heap.size w) (.cells #[.int .i64 i, .int .i64 k] 25)
 have bp := blk_new w (.cells #[.int .i64 i, .int .i64 k] 25)
 have y0 : (w.alloc (.cells #[.int .i64 i, .int .i64 k] 25)).cell? ⟨w.heap.size, 0, none⟩ = some (.int .i64 i) := (blk_cell bp 0).trans rfl
 have y1 : (w.alloc (.cells #[.int .i64 i, .int .i64 k] 25)).cell? ⟨w.heap.size, 1, none⟩ = some (.int .i64 k) := (blk_cell bp 1).trans rfl
 replace k2 := (hb.cell (p := ⟨g, 2, none⟩) hlt).trans k2
 replace k3 := (hb.cell (p := ⟨g, 3, none⟩) hlt).trans k3
 have HB := Aside0.mk hb
 clear bp hlt hb
 cases q1 : isIn 0 i la <;> cases q2 : isIn 0 k lb
 all_goals
  have Q1 := Aside0.mk q1
  have Q2 := Aside0.mk q2
  clear q1 q2
  go_enter Try.func46, Try.ntmps46
  go_wp2_with fail
  generalize w.alloc (.cells #[.int .i64 i, .int .i64 k] 25) = w1 at y0 y1 k2 k3 HB ⊢
  generalize w.heap.size = B at y0 y1 ⊢
  go_quiet ((go_at_call 69; (with_reducible refine (bt_calls _ _ _ _).mono ?_); (first | rw [Q1.out] | rw [Q2.out]); rintro e w' ⟨rfl, ⟨nd, rfl⟩⟩; exact ⟨rfl, _, World.drewN_drewN _ _ _⟩))
  go_wp2
  go_ret
  exact ⟨rfl, by repeat (first | exact HB.out | apply pw_below_drewN | apply below_alloc)⟩

end Go.Proofs.Ytkocigldchiifaa.H
