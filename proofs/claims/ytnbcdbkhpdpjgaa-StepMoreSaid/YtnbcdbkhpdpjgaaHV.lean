/- What is true of a master's sheet: each position is near its row. -/
import Derived.Test.YtnbcdbkhpdpjgaaHT
namespace Go.Proofs.Ytnbcdbkhpdpjgaa.H
open Go.RowKit Go.Proofs.YtnbcdbkhpdpjgaaW.PrintWords Go.Proofs.YtnbcdbkhpdpjgaaW.PrintLast Go.Proofs.YtnbcdbkhpdpjgaaW.PrintMore
open Go.Proofs.Ytnbcdbkhpdpjgaa.QA
set_option linter.unusedVariables false
set_option linter.unusedSimpArgs false

/-- A position is near a row. -/
def Tr (s off o p r : Int) : Prop := (1 ≤ p ∧ p ≤ 3000) ∧ (7 ≤ r ∧ r ≤ 56) ∧ -off ≤ p - o - r * s ∧ p - o - r * s ≤ off
def TI (s off : Int) (st : MdSt) (m i : Nat) : Prop := st.cs.length = m ∧ st.os.length = m ∧ st.rs.length = m ∧ ∀ c, c < m →
 (0 ≤ st.os.getD c 0 ∧ st.os.getD c 0 < s) ∧ (st.cs.getD c []).length = (i + 2 - c) / 3 ∧ (st.rs.getD c []).length = (i + 2 - c) / 3 ∧
 ∀ k, k < (i + 2 - c) / 3 → Tr s off (st.os.getD c 0) ((st.cs.getD c []).getD k 0) ((st.rs.getD c []).getD k 0)
theorem getD_snoc_lt {α : Type} (l : List α) (x d : α) (c : Nat) (h : c < l.length) : (l ++ [x]).getD c d = l.getD c d := by
 rw [List.getD_eq_getElem?_getD, List.getD_eq_getElem?_getD, List.getElem?_append_left h]
theorem getD_snoc_eq {α : Type} (l : List α) (x d : α) : (l ++ [x]).getD l.length d = x := by
 rw [List.getD_eq_getElem?_getD, List.getElem?_append_right (Nat.le_refl _)]; simp
theorem getD_set_eq {α : Type} (l : List α) (x d : α) (c : Nat) (h : c < l.length) : (l.set c x).getD c d = x := by
 rw [List.getD_eq_getElem?_getD, List.getElem?_set_self h]; rfl
theorem getD_set_ne {α : Type} (l : List α) (x d : α) (c c' : Nat) (h : c ≠ c') : (l.set c x).getD c' d = l.getD c' d := by
 rw [List.getD_eq_getElem?_getD, List.getD_eq_getElem?_getD, List.getElem?_set_ne h]
theorem ti_new {s off o0 o1 o2 : Int} {st : MdSt} {i : Nat} (hs : 1 ≤ s) (h : TI s off st (min i 3) i) : TI s off (mdNew s o0 o1 o2 st i) (min (i + 1) 3) i := by
 obtain ⟨h1, h2, h3, h4⟩ := h
 unfold mdNew
 split
 · rename_i hq
   have hm : min (i + 1) 3 = min i 3 + 1 := by omega
   refine ⟨by simp only [List.length_append, List.length_cons, List.length_nil]; omega, by simp only [List.length_append, List.length_cons, List.length_nil]; omega, by simp only [List.length_append, List.length_cons, List.length_nil]; omega, fun c hc => ?_⟩
   by_cases hcm : c < min i 3
   · show _ ∧ _
     rw [getD_snoc_lt _ _ _ _ (by omega), getD_snoc_lt _ _ _ _ (by omega), getD_snoc_lt _ _ _ _ (by omega)]
     exact h4 c hcm
   · have hce : c = min i 3 := by omega
     have e1 : (st.cs ++ [[]]).getD c [] = [] := by rw [hce, ← h1]; exact getD_snoc_eq _ _ _
     have e2 : (st.rs ++ [[]]).getD c [] = [] := by rw [hce, ← h3]; exact getD_snoc_eq _ _ _
     have e3 : (st.os ++ [mdOf o0 o1 o2 (i % 3) % s]).getD c 0 = mdOf o0 o1 o2 (i % 3) % s := by rw [hce, ← h2]; exact getD_snoc_eq _ _ _
     have hz : (i + 2 - c) / 3 = 0 := by omega
     show _ ∧ _
     rw [e1, e2, e3, hz]
     exact ⟨⟨Int.emod_nonneg _ (by omega), Int.emod_lt_of_pos _ (by omega)⟩, rfl, rfl, fun k hk => by omega⟩
 · rename_i hq
   have hm : min (i + 1) 3 = min i 3 := by omega
   rw [hm]
   exact ⟨h1, h2, h3, h4⟩
theorem ti_put {s off : Int} {st : MdSt} {i : Nat} {x : S92} (hs : 1 ≤ s ∧ s ≤ 40) (ho : 0 ≤ off ∧ off ≤ 6) (hx : isByte x.f0 ∧ isByte x.f1) (h : TI s off st (min (i + 1) 3) i) : TI s off (mdPut s off st (i % 3) x) (min (i + 1) 3) (i + 1) := by
 obtain ⟨h1, h2, h3, h4⟩ := h
 unfold isByte at hx
 refine ⟨by simp only [mdPut, List.length_set]; exact h1, h2, by simp only [mdPut, List.length_set]; exact h3, fun c hc => ?_⟩
 obtain ⟨g1, g2, g3, g4⟩ := h4 c hc
 by_cases hce : i % 3 = c
 · subst hce
   have e1 : (mdPut s off st (i % 3) x).cs.getD (i % 3) [] = st.cs.getD (i % 3) [] ++ [st.os.getD (i % 3) 0 + (7 + x.f0 % 50) * s + x.f1 % (2 * off + 1) - off] := getD_set_eq _ _ _ _ (by omega)
   have e2 : (mdPut s off st (i % 3) x).rs.getD (i % 3) [] = st.rs.getD (i % 3) [] ++ [7 + x.f0 % 50] := getD_set_eq _ _ _ _ (by omega)
   have hl : (i + 1 + 2 - i % 3) / 3 = (i + 2 - i % 3) / 3 + 1 := by omega
   rw [e1, e2, hl]
   refine ⟨g1, by simp only [List.length_append, List.length_cons, List.length_nil]; omega, by simp only [List.length_append, List.length_cons, List.length_nil]; omega, fun k hk => ?_⟩
   by_cases hkl : k < (i + 2 - i % 3) / 3
   · rw [getD_snoc_lt _ _ _ _ (by omega), getD_snoc_lt _ _ _ _ (by omega)]
     exact g4 k hkl
   · have hke : k = (i + 2 - i % 3) / 3 := by omega
     have q1 : k = (st.cs.getD (i % 3) []).length := by omega
     have q2 : k = (st.rs.getD (i % 3) []).length := by omega
     have e3 : (st.cs.getD (i % 3) [] ++ [st.os.getD (i % 3) 0 + (7 + x.f0 % 50) * s + x.f1 % (2 * off + 1) - off]).getD k 0 = st.os.getD (i % 3) 0 + (7 + x.f0 % 50) * s + x.f1 % (2 * off + 1) - off := by rw [q1]; exact getD_snoc_eq _ _ _
     have e4 : (st.rs.getD (i % 3) [] ++ [7 + x.f0 % 50]).getD k 0 = 7 + x.f0 % 50 := by rw [q2]; exact getD_snoc_eq _ _ _
     have e5 : (mdPut s off st (i % 3) x).os.getD (i % 3) 0 = st.os.getD (i % 3) 0 := rfl
     rw [e3, e4, e5]
     generalize st.os.getD (i % 3) 0 = o at g1 ⊢
     have hr : 7 ≤ 7 + x.f0 % 50 ∧ 7 + x.f0 % 50 ≤ 56 := by omega
     generalize 7 + x.f0 % 50 = r at hr ⊢
     have m1 : 7 * 1 ≤ r * s := Int.mul_le_mul (by omega) (by omega) (by omega) (by omega)
     have m2 : r * s ≤ 56 * 40 := Int.mul_le_mul (by omega) (by omega) (by omega) (by omega)
     have m3 : 0 ≤ x.f1 % (2 * off + 1) := Int.emod_nonneg _ (by omega)
     have m4 : x.f1 % (2 * off + 1) < 2 * off + 1 := Int.emod_lt_of_pos _ (by omega)
     unfold Tr
     generalize r * s = m at m1 m2 ⊢
     exact ⟨⟨by omega, by omega⟩, hr, by omega, by omega⟩
 · have e1 : (mdPut s off st (i % 3) x).cs.getD c [] = st.cs.getD c [] := getD_set_ne _ _ _ _ _ hce
   have e2 : (mdPut s off st (i % 3) x).rs.getD c [] = st.rs.getD c [] := getD_set_ne _ _ _ _ _ hce
   have hl : (i + 1 + 2 - c) / 3 = (i + 2 - c) / 3 := by omega
   rw [e1, e2, hl]
   exact ⟨g1, g2, g3, g4⟩
theorem ti_run {s off o0 o1 o2 : Int} (hs : 1 ≤ s ∧ s ≤ 40) (ho : 0 ≤ off ∧ off ≤ 6) : ∀ (l : List S92) (i : Nat) (st : MdSt), (∀ x ∈ l, isByte x.f0 ∧ isByte x.f1) → TI s off st (min i 3) i → TI s off (mdRun s off o0 o1 o2 l i st) (min (i + l.length) 3) (i + l.length)
 | [], i, st, _, h => h
 | x :: l, i, st, hx, h => by
  have := ti_run (o0 := o0) (o1 := o1) (o2 := o2) hs ho l (i + 1) (mdStep s off o0 o1 o2 st i x) (fun y hy => hx y (List.mem_cons_of_mem _ hy)) (ti_put hs ho (hx x List.mem_cons_self) (ti_new hs.1 h))
  rw [List.length_cons, show i + (l.length + 1) = i + 1 + l.length by omega]
  exact this

/-- What a master makes. -/
structure Made (off : Int) (cs : List (List Int)) (s : Int) (os : List Int) (rs : List (List Int)) : Prop where
 ho : 0 ≤ off ∧ off ≤ 6
 hs : 1 ≤ s ∧ s ≤ 40
 hc : 1 ≤ cs.length ∧ cs.length ≤ 3
 lo : os.length = cs.length
 lr : rs.length = cs.length
 inn : ∀ c, c < cs.length → (0 ≤ os.getD c 0 ∧ os.getD c 0 < s) ∧ (1 ≤ (cs.getD c []).length ∧ (cs.getD c []).length ≤ 5) ∧ (rs.getD c []).length = (cs.getD c []).length ∧ ∀ k, k < (cs.getD c []).length → Tr s off (os.getD c 0) ((cs.getD c []).getD k 0) ((rs.getD c []).getD k 0)
theorem made_true (a0 a1 a2 a3 a4 : Int) (l : List S92) (hok : mdOk a0 a1 a2 a3 a4 l) : ∃ off cs s os rs, pianolalaw01_Master_made.f a0 a1 a2 a3 a4 l = some (off, cs, s, os, rs) ∧ Made off cs s os rs := by
 have hb := hok.1
 unfold isByte at hb
 have hs : 1 ≤ 1 + a0 % 40 ∧ 1 + a0 % 40 ≤ 40 := by omega
 have ho : 0 ≤ a1 % 7 ∧ a1 % 7 ≤ 6 := by omega
 unfold pianolalaw01_Master_made.f
 rw [if_pos hok]
 generalize 1 + a0 % 40 = s at hs ⊢
 generalize a1 % 7 = off at ho ⊢
 have hT := ti_run (o0 := a2) (o1 := a3) (o2 := a4) hs ho (l.take 15) 0 ⟨[], [], []⟩ (fun x hx => hok.2 x (List.mem_of_mem_take hx)) ⟨rfl, rfl, rfl, fun c hc => by omega⟩
 have hl : (l.take 15).length ≤ 15 := by rw [List.length_take]; omega
 generalize mdRun s off a2 a3 a4 (l.take 15) 0 ⟨[], [], []⟩ = st at hT ⊢
 generalize (l.take 15).length = n at hT hl
 rw [Nat.zero_add] at hT
 obtain ⟨h1, h2, h3, h4⟩ := hT
 unfold mdEnd
 split
 · refine ⟨_, _, _, _, _, rfl, ho, hs, by simp, rfl, rfl, fun c hc => ?_⟩
   have hc0 : c = 0 := by simp at hc; omega
   subst hc0
   refine ⟨⟨Int.le_refl _, by show (0 : Int) < s; omega⟩, ⟨Nat.le_refl 1, (by decide : 1 ≤ 5)⟩, rfl, fun k hk => ?_⟩
   have hk0 : k = 0 := by simp at hk; omega
   subst hk0
   show Tr s off 0 (7 * s) 7
   unfold Tr
   refine ⟨⟨by omega, by omega⟩, ⟨by omega, by omega⟩, by omega, by omega⟩
 · rename_i hne
   have hp : 0 < st.cs.length := by
     cases hcs : st.cs with
     | nil => exact absurd hcs hne
     | cons y ys => simp
   refine ⟨_, _, _, _, _, rfl, ho, hs, by omega, by omega, by omega, fun c hc => ?_⟩
   obtain ⟨g1, g2, g3, g4⟩ := h4 c (by omega)
   exact ⟨g1, by omega, by omega, fun k hk => g4 k (by omega)⟩
end Go.Proofs.Ytnbcdbkhpdpjgaa.H
