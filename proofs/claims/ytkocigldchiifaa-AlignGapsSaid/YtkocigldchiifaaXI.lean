/- Texts HM, PA, HN, HO of this chapter, one behind the other. -/
import Derived.Carry
import Derived.LoopIn
import Derived.LoopNIn
import Derived.OwnWalkIn
import Derived.TacticsInMore
import Derived.Test.YtkocigldchiifaaQA4
import Derived.Test.YtkocigldchiifaaXA
import Derived.Test.YtkocigldchiifaaXB

/- Tables of rows of one's own. -/
namespace Go.Proofs.Ytkocigldchiifaa.H
open Go.RowKit Go.Proofs.YtkocigldchiifaaW.PrintWords Go.Proofs.YtkocigldchiifaaW.PrintLast Go.Proofs.YtkocigldchiifaaW.PrintMore
open Go.Shelf Go.Proofs.Ytkocigldchiifaa.QA
set_option linter.unusedVariables false
set_option linter.unusedSimpArgs false

/-- A table of rows of one's own: which rows are there, where they lie, and what is in them. -/
structure Mt (w : World) (base g n m : Nat) (t1 t2 : TypeId) (D : Nat → Prop) (B : Nat → Nat) (V : Nat → Nat → Value) : Prop where
 top : ∃ T : Array Value, T.size = n ∧ w.heap[g]? = some (.cells T t1 (0, 0)) ∧ ∀ r, r < n → (D r → T[r]? = some (.slice (some ⟨B r, 0, none⟩) m m)) ∧ (¬ D r → T[r]? = some (.slice none 0 0))
 row : ∀ r, r < n → D r → ∃ T : Array Value, T.size = m ∧ w.heap[B r]? = some (.cells T t2 (0, 0)) ∧ ∀ k, k < m → T[k]? = some (V r k)
 gb : base ≤ g
 rb : ∀ r, r < n → D r → base ≤ B r ∧ B r ≠ g
 inj : ∀ r r', r < n → r' < n → D r → D r' → B r = B r' → r = r'
variable {w : World} {base g n m : Nat} {t1 t2 : TypeId} {D : Nat → Prop} {B : Nat → Nat} {V : Nat → Nat → Value}
theorem Mt.lt (h : Mt w base g n m t1 t2 D B V) : g < w.heap.size := by
 obtain ⟨T, _, h1, _⟩ := h.top
 exact blk_lt h1
theorem Mt.cell0 (h : Mt w base g n m t1 t2 D B V) (r : Nat) (hr : r < n) (hd : D r) : w.cell? ⟨g, r, none⟩ = some (.slice (some ⟨B r, 0, none⟩) m m) := by
 obtain ⟨T, _, h1, h2⟩ := h.top
 exact (blk_cell h1 r).trans ((h2 r hr).1 hd)
theorem Mt.nil0 (h : Mt w base g n m t1 t2 D B V) (r : Nat) (hr : r < n) (hd : ¬ D r) : w.cell? ⟨g, r, none⟩ = some (.slice none 0 0) := by
 obtain ⟨T, _, h1, h2⟩ := h.top
 exact (blk_cell h1 r).trans ((h2 r hr).2 hd)
theorem Mt.fz0 (h : Mt w base g n m t1 t2 D B V) (r : Nat) : w.frozen? ⟨g, r, none⟩ = false := by
 obtain ⟨T, _, h1, h2⟩ := h.top
 exact blk_frozen h1 r
theorem Mt.cell1 (h : Mt w base g n m t1 t2 D B V) (r k : Nat) (hr : r < n) (hd : D r) (hk : k < m) : w.cell? ⟨B r, k, none⟩ = some (V r k) := by
 obtain ⟨T, _, h1, h2⟩ := h.row r hr hd
 exact (blk_cell h1 k).trans (h2 k hk)
theorem Mt.fz1 (h : Mt w base g n m t1 t2 D B V) (r k : Nat) (hr : r < n) (hd : D r) : w.frozen? ⟨B r, k, none⟩ = false := by
 obtain ⟨T, _, h1, h2⟩ := h.row r hr hd
 exact blk_frozen h1 k
theorem Mt.below {w' : World} (h : Mt w base g n m t1 t2 D B V) (hb : Below w.heap.size w w') : Mt w' base g n m t1 t2 D B V := by
 obtain ⟨⟨T, h1, h2, h3⟩, h4, h5, h6, h7⟩ := h
 refine ⟨⟨T, h1, blk_below h2 hb, h3⟩, fun r hr hd => ?_, h5, h6, h7⟩
 obtain ⟨T', e1, e2, e3⟩ := h4 r hr hd
 exact ⟨T', e1, blk_below e2 hb, e3⟩
theorem Mt.congr {D' : Nat → Prop} {V' : Nat → Nat → Value} (h : Mt w base g n m t1 t2 D B V) (hD : ∀ r, r < n → (D' r ↔ D r)) (hV : ∀ r k, r < n → D r → k < m → V' r k = V r k) : Mt w base g n m t1 t2 D' B V' := by
 obtain ⟨⟨T, h1, h2, h3⟩, h4, h5, h6, h7⟩ := h
 refine ⟨⟨T, h1, h2, fun r hr => ⟨fun hd => (h3 r hr).1 ((hD r hr).1 hd), fun hd => (h3 r hr).2 (fun e => hd ((hD r hr).2 e))⟩⟩, fun r hr hd => ?_, h5, fun r hr hd => h6 r hr ((hD r hr).1 hd), fun r r' hr hr' hd hd' => h7 r r' hr hr' ((hD r hr).1 hd) ((hD r' hr').1 hd')⟩
 obtain ⟨T', e1, e2, e3⟩ := h4 r hr ((hD r hr).1 hd)
 exact ⟨T', e1, e2, fun k hk => by rw [hV r k hr ((hD r hr).1 hd) hk]; exact e3 k hk⟩
/-- A store into a row. -/
theorem Mt.put (h : Mt w base g n m t1 t2 D B V) (r k : Nat) (v : Value) (hr : r < n) (hd : D r) (hk : k < m) : Mt (w.setCell ⟨B r, k, none⟩ v) base g n m t1 t2 D B (fun r' k' => if r' = r ∧ k' = k then v else V r' k') := by
 obtain ⟨⟨T, h1, h2, h3⟩, h4, h5, h6, h7⟩ := h
 refine ⟨⟨T, h1, blk_far h2 (fun e => (h6 r hr hd).2 e.symm) v, h3⟩, fun r' hr' hd' => ?_, h5, h6, h7⟩
 obtain ⟨T', e1, e2, e3⟩ := h4 r' hr' hd'
 by_cases e : r' = r
 · subst e
   refine ⟨T'.setIfInBounds k v, by simp [e1], blk_set e2 k v, fun k' hk' => ?_⟩
   by_cases ek : k' = k
   · subst ek
     simp [e1, hk]
   · simp only [ek, and_false, if_false]
     rw [Array.getElem?_setIfInBounds_ne (Ne.symm ek)]
     exact e3 k' hk'
 · refine ⟨T', e1, blk_far e2 (fun e' => e (h7 _ _ hr' hr hd' hd e')) v, fun k' hk' => ?_⟩
   simp only [e, false_and, if_false]
   exact e3 k' hk'
/-- A new row. -/
theorem Mt.new (h : Mt w base g n m t1 t2 D B V) (r b : Nat) (z : Value) (hr : r < n) (hd : ¬ D r) (hb : base ≤ b) (hg : b ≠ g) (hn : ∀ r', r' < n → D r' → B r' ≠ b) (hw : w.heap[b]? = some (.cells (madeCells #[z] m) t2 (0, 0))) :
  Mt (w.setCell ⟨g, r, none⟩ (.slice (some ⟨b, 0, none⟩) m m)) base g n m t1 t2 (fun r' => r' = r ∨ D r') (fun r' => if r' = r then b else B r') (fun r' k' => if r' = r then z else V r' k') := by
 obtain ⟨⟨T, h1, h2, h3⟩, h4, h5, h6, h7⟩ := h
 refine ⟨⟨T.setIfInBounds r (.slice (some ⟨b, 0, none⟩) m m), by simp [h1], blk_set h2 r _, fun r' hr' => ?_⟩, fun r' hr' hd' => ?_, h5, fun r' hr' hd' => ?_, fun r1 r2 hr1 hr2 hd1 hd2 he => ?_⟩
 · by_cases e : r' = r
   · subst e
     exact ⟨fun _ => by simp [h1, hr], fun h => (h (.inl rfl)).elim⟩
   · rw [Array.getElem?_setIfInBounds_ne (Ne.symm e)]
     simp only [e, if_false, false_or]
     exact h3 r' hr'
 · by_cases e : r' = r
   · subst e
     refine ⟨madeCells #[z] m, by simp [size_madeCells], ?_, fun k hk => ?_⟩
     · simp only [if_true]
       exact blk_far hw (show b ≠ g from hg) _
     · rw [← Array.getElem?_toList, toList_madeCells_one]
       simp [hk]
   · obtain ⟨T', e1, e2, e3⟩ := h4 r' hr' (hd'.resolve_left e)
     refine ⟨T', e1, ?_, fun k hk => ?_⟩
     · simp only [e, if_false]
       exact blk_far e2 (show B r' ≠ g from (h6 r' hr' (hd'.resolve_left e)).2) _
     · simp only [e, if_false]
       exact e3 k hk
 · by_cases e : r' = r
   · simp only [e, if_true]; exact ⟨hb, hg⟩
   · simp only [e, if_false]; exact h6 r' hr' (hd'.resolve_left e)
 · by_cases e1 : r1 = r <;> by_cases e2 : r2 = r
   · rw [e1, e2]
   · simp only [e1, e2, if_true, if_false] at he
     exact (hn r2 hr2 (hd2.resolve_left e2) he.symm).elim
   · simp only [e1, e2, if_true, if_false] at he
     exact (hn r1 hr1 (hd1.resolve_left e1) he).elim
   · simp only [e1, e2, if_false] at he
     exact h7 r1 r2 hr1 hr2 (hd1.resolve_left e1) (hd2.resolve_left e2) he
/-- A table without rows. -/
theorem Mt.start (w : World) (base n m : Nat) (t1 t2 : TypeId) (B : Nat → Nat) (V : Nat → Nat → Value) (hb : base ≤ w.heap.size) : Mt (w.alloc (.cells (madeCells #[.slice none 0 0] n) t1)) base w.heap.size n m t1 t2 (fun _ => False) B V := by
 refine ⟨⟨madeCells #[.slice none 0 0] n, by simp [size_madeCells], blk_new w _, fun r hr => ⟨fun h => h.elim, fun _ => ?_⟩⟩, fun _ _ h => h.elim, hb, fun _ _ h => h.elim, fun _ _ _ _ h => h.elim⟩
 rw [← Array.getElem?_toList, toList_madeCells_one]
 simp [hr]

end Go.Proofs.Ytkocigldchiifaa.H

/- The reference's events; the rests of pairs, step by step. -/
namespace Go.Proofs.Ytkocigldchiifaa.H
open Go.RowKit Go.Proofs.YtkocigldchiifaaW.PrintWords Go.Proofs.YtkocigldchiifaaW.PrintLast Go.Proofs.YtkocigldchiifaaW.PrintMore
open Go.Shelf Go.Proofs.Ytkocigldchiifaa.QA
set_option linter.unusedVariables false
set_option linter.unusedSimpArgs false

/-- An event, as the reference has it. -/
def ev (x : S59) : S79 := ⟨x.f0, x.f1, x.f2⟩
theorem rd_ev (l : List S59) (i : Int) : rd_T79 (l.map ev) i = ev (rd_T59 l i) := by
 unfold rd_T79 rd_T59
 rw [List.getD_eq_getElem?_getD, List.getElem?_map, List.getD_eq_getElem?_getD]
 cases l[i.toNat]? <;> rfl
theorem apartR_f (a b : Int) (ha : 0 ≤ a ∧ a ≤ 1000) (hb : 0 ≤ b ∧ b ≤ 1000) : pianolaref07_apart.f a b = some (apartD a b) := by
 unfold pianolaref07_apart.f apartD mx mn
 congr 1
 rw [w64' _ (by split <;> split <;> omega) (by split <;> split <;> omega)]
 split <;> split <;> split <;> omega
theorem dist_f {x y : S59} (hx : goodB x = true) (hy : goodB y = true) : pianolaref07_distance.f x.f0 x.f1 x.f2 y.f0 y.f1 y.f2 = some (farD x y) := by
 obtain ⟨_, h2, h3⟩ := good_in hx
 obtain ⟨_, h5, h6⟩ := good_in hy
 unfold pianolaref07_distance.f farD
 rw [apartR_f _ _ h2 h5, apartR_f _ _ h3 h6]
 have q1 := apartD_in x.f1 y.f1 1000 h2 h5
 have q2 := apartD_in x.f2 y.f2 1000 h3 h6
 split
 · show some (wrap64 _) = _
   rw [w64' _ (by omega) (by omega)]
 · rfl
theorem mn_min (a b : Int) : mn a b = min a b := by unfold mn; split <;> omega
theorem rest_both (a b : List S59) (i k : Nat) (hi : i + 1 < a.length) (hk : k + 1 < b.length) :
  restI a b i k = mx (mn (mn (mn 1000000 (restI a b ((i + 1 : Nat) : Int) k)) (restI a b i ((k + 1 : Nat) : Int))) (restI a b ((i + 1 : Nat) : Int) ((k + 1 : Nat) : Int))) (farD (rd_T59 a i) (rd_T59 b k)) := by
 have h1 : ((i : Int) + 1 < a.length) := by omega
 have h2 : ((k : Int) + 1 < b.length) := by omega
 have h3 : ¬ ((i : Int) = (a.length : Int) - 1 ∧ (k : Int) = (b.length : Int) - 1) := by omega
 have h4 : ((i : Int) + 1 < a.length ∧ (k : Int) + 1 < b.length) := by omega
 rw [rest_eq a b i k (by omega) (by omega), moves_eq a b i k (by omega) (by omega), if_pos h4, if_pos h1, if_pos h2, if_neg h3]
 simp only [List.cons_append, List.nil_append, List.foldl_cons, List.foldl_nil, mn_min, Int.natCast_add, Int.natCast_one]
 congr 1
 omega
theorem rest_down (a b : List S59) (i k : Nat) (hi : i + 1 < a.length) (hk : k + 1 = b.length) :
  restI a b i k = mx (mn 1000000 (restI a b ((i + 1 : Nat) : Int) k)) (farD (rd_T59 a i) (rd_T59 b k)) := by
 have h1 : ((i : Int) + 1 < a.length) := by omega
 have h2 : ¬ ((k : Int) + 1 < b.length) := by omega
 have h3 : ¬ ((i : Int) = (a.length : Int) - 1 ∧ (k : Int) = (b.length : Int) - 1) := by omega
 have h4 : ¬ ((i : Int) + 1 < a.length ∧ (k : Int) + 1 < b.length) := by omega
 rw [rest_eq a b i k (by omega) (by omega), moves_eq a b i k (by omega) (by omega), if_neg h4, if_pos h1, if_neg h2, if_neg h3]
 simp only [List.cons_append, List.nil_append, List.append_nil, List.foldl_cons, List.foldl_nil, mn_min, Int.natCast_add, Int.natCast_one]
theorem rest_right (a b : List S59) (i k : Nat) (hi : i + 1 = a.length) (hk : k + 1 < b.length) :
  restI a b i k = mx (mn 1000000 (restI a b i ((k + 1 : Nat) : Int))) (farD (rd_T59 a i) (rd_T59 b k)) := by
 have h1 : ¬ ((i : Int) + 1 < a.length) := by omega
 have h2 : ((k : Int) + 1 < b.length) := by omega
 have h3 : ¬ ((i : Int) = (a.length : Int) - 1 ∧ (k : Int) = (b.length : Int) - 1) := by omega
 have h4 : ¬ ((i : Int) + 1 < a.length ∧ (k : Int) + 1 < b.length) := by omega
 rw [rest_eq a b i k (by omega) (by omega), moves_eq a b i k (by omega) (by omega), if_neg h4, if_neg h1, if_pos h2, if_neg h3]
 simp only [List.cons_append, List.nil_append, List.append_nil, List.foldl_cons, List.foldl_nil, mn_min, Int.natCast_add, Int.natCast_one]
theorem rest_last (a b : List S59) (i k : Nat) (hi : i + 1 = a.length) (hk : k + 1 = b.length) :
  restI a b i k = mx 0 (farD (rd_T59 a i) (rd_T59 b k)) := by
 have h1 : ¬ ((i : Int) + 1 < a.length) := by omega
 have h2 : ¬ ((k : Int) + 1 < b.length) := by omega
 have h3 : ((i : Int) = (a.length : Int) - 1 ∧ (k : Int) = (b.length : Int) - 1) := by omega
 have h4 : ¬ ((i : Int) + 1 < a.length ∧ (k : Int) + 1 < b.length) := by omega
 rw [rest_eq a b i k (by omega) (by omega), moves_eq a b i k (by omega) (by omega), if_neg h4, if_neg h1, if_neg h2, if_pos h3]
 simp only [List.cons_append, List.nil_append, List.append_nil, List.foldl_cons, List.foldl_nil]

end Go.Proofs.Ytkocigldchiifaa.H

/- The reference's rests. -/
namespace Go.Proofs.Ytkocigldchiifaa.H
open Go.RowKit Go.Proofs.YtkocigldchiifaaW.PrintWords Go.Proofs.YtkocigldchiifaaW.PrintLast Go.Proofs.YtkocigldchiifaaW.PrintMore
open Go.Shelf Go.Proofs.Ytkocigldchiifaa.QA

set_option linter.unusedVariables false
set_option linter.unusedSimpArgs false

theorem max2_mx (k k' : IntKind) (x y : Int) : Builtin.max2 (.int k x) (.int k' y) = pure (.int k (mx x y)) := max2_int k k' x y
theorem min2_mn (k k' : IntKind) (x y : Int) : Builtin.min2 (.int k x) (.int k' y) = pure (.int k (mn x y)) := min2_int k k' x y
section
attribute [local go_sem] max2_mx min2_mn max_two min_two
theorem wrap_down (i : Nat) (h : i ≤ 1000000) : wrap64 ((i : Int) - 1) = (i : Int) - 1 := w64' _ (by omega) (by omega)
theorem wrap_up (i : Nat) (h : i ≤ 1000000) : wrap64 ((i : Int) + 1) = ((i + 1 : Nat) : Int) := by rw [w64' _ (by omega) (by omega)]; rfl
theorem meas_down (i : Nat) : ((i : Int) - 1 + 1).toNat < ((i : Int) + 1).toNat := by omega
def rests18_T : Bool × List (List Nat × List Nat) := (true, [([], []), ([], []), ([0, 1], [0, 1]), ([2], [2]), ([], []), ([], []), ([], []), ([], []), ([6, 7], [6, 7]), ([8], [8]), ([], []), ([], []), ([10, 11], [10, 11]), ([12], [12]), ([9, 13], [9, 13]), ([5, 14], [5, 14]), ([3, 4, 0, 1, 2, 3, 4, 5, 6, 7, 8, 9, 10, 11, 12, 13, 14, 15], [3, 4]), ([16, 15, 14, 0, 1, 2, 3, 4, 5, 6, 7, 8, 9, 10, 11, 12, 13, 14, 15], [15, 16])])
def rests18_B : List Nat := [0, 0, 3, 7, 0, 0, 0, 0, 192, 448, 0, 0, 3072, 7168, 16320, 32736, 65535, 131071]
theorem rests18_tab : rtab .any (opsOf Try.f51 18) = rests18_T := by kernel_rfl
theorem rests18_bits : waitsOk rests18_T.2 rests18_B = true := by kernel_rfl
theorem info63 : (Try.prog.info? 63).map (fun i => (i.zero, i.size, i.bytes)) = some (some (.slice none 0 0), 1, 24) := by kernel_rfl
set_option maxRecDepth 100000 in
set_option maxHeartbeats 4000000 in
theorem rests_calls' (A0 : Option Addr) (c0 : Nat) (a : List S59) (A1 : Option Addr) (c1 : Nat) (b : List S59) (n m : Nat) (w : World) (hn : n = a.length) (hm : m = b.length) (hr0 : Kd.C k79 w A0 n (a.map ev)) (hc0 : n ≤ c0) (hr1 : Kd.C k79 w A1 m (b.map ev)) (hc1 : m ≤ c1) (hR : Rolls a b) :
  Calls Try.prog 51 #[.slice A0 n c0, .slice A1 m c1] w fun e w' => ∃ (g : Nat) (B : Nat → Nat) (V : Nat → Nat → Value), e = .returned (.slice (some ⟨g, 0, none⟩) n n) ∧ Mt w' w.heap.size g n m 63 3 (fun _ => True) B V ∧ (∀ r k : Nat, r < n → k < m → V r k = .int .i64 (restI a b r k)) ∧ Below w.heap.size w w' := by
 have hu79 := Try.underlying79
 have hu59 := Try.underlying59
 have HN := Aside0.mk (show 1 ≤ n ∧ n ≤ 30 by have := hR.ha; omega)
 have HM0 := Aside0.mk (show 1 ≤ m ∧ m ≤ 30 by have := hR.hb; omega)
 have mk1 : ∀ W : World, (Instr.makeSlice 89 (.int .i64 (n : Int)) (.int .i64 (n : Int))).run Try.prog W = .ok (.slice (some ⟨W.heap.size, 0, none⟩) n n) (W.alloc (.cells (madeCells #[.slice none 0 0] n) 63)) := print_make_of 89 63 (.slice none 0 0) 24 Try.underlying89 info63 rfl (by decide) n (by have := HN.out; omega)
 have mk2 : ∀ W : World, (Instr.makeSlice 63 (.int .i64 (m : Int)) (.int .i64 (m : Int))).run Try.prog W = .ok (.slice (some ⟨W.heap.size, 0, none⟩) m m) (W.alloc (.cells (madeCells #[.int .i64 0] m) 3)) := print_make 63 3 .i64 8 Try.underlying63 info3 (by decide) m (by have := HM0.out; omega)
 have e1 : wrap64 ((n : Int) - 1) = (n : Int) - 1 := w64' _ (by have := HN.out; omega) (by have := HN.out; omega)
 have e2 : wrap64 ((m : Int) - 1) = (m : Int) - 1 := w64' _ (by have := HM0.out; omega) (by have := HM0.out; omega)
 have HE1 := Aside0.mk (And.intro hn hm)
 have HR := Aside0.mk (And.intro hr0 hr1)
 have HRo := Aside0.mk hR
 have HC := Aside0.mk (And.intro hc0 hc1)
 have HST := Aside0.mk (Mt.start w w.heap.size n m 63 3 (fun _ => 0) (fun _ _ => .bool false) (Nat.le_refl _))
 have HBS := Aside0.mk (below_alloc (Below.refl w.heap.size w) (.cells (madeCells #[.slice none 0 0] n) 63))
 clear hn hm hr0 hr1 hc0 hc1 hR
 go_enter Try.func51, Try.ntmps51
 go_wp2
 have hgs : w.heap.size = w.heap.size := rfl
 obtain ⟨g, hg⟩ : ∃ g, g = w.heap.size := ⟨_, rfl⟩
 obtain ⟨w1, hw1⟩ : ∃ W : World, W = w.alloc (.cells (madeCells #[.slice none 0 0] n) 63) := ⟨_, rfl⟩
 replace HST := Aside0.mk (show Mt w1 w.heap.size g n m 63 3 (fun _ => False) (fun _ => 0) (fun _ _ => .bool false) by rw [hw1, hg]; exact HST.out)
 replace HBS := Aside0.mk (show Below w.heap.size w w1 by rw [hw1]; exact HBS.out)
 rw [← hw1, ← hg]
 clear hw1 hgs
 have HG := Aside0.mk hg
 clear hg
 go_loopw [6, 7, 8] (fun s6 s7 s8 wr => ∃ (j : Nat) (B : Nat → Nat) (V : Nat → Nat → Value), s6 = .int .i64 ((j : Int) - 1) ∧ Aside0 (j ≤ n) ∧ Aside0 (Mt wr w.heap.size g n m 63 3 (fun r => j ≤ r) B V) ∧ Aside0 (∀ r k : Nat, j ≤ r → r < n → k < m → V r k = .int .i64 (restI a b r k)) ∧ Aside0 (Below w.heap.size w wr)) (fun s6 _ _ _ => ((intOf s6) + 1).toNat)
 case atStart => exact ⟨n, fun _ => 0, fun _ _ => .bool false, congrArg _ e1, ⟨Nat.le_refl _⟩, ⟨HST.out.congr (fun r hr => ⟨fun h => by omega, fun h => h.elim⟩) (fun r k _ h => h.elim)⟩, ⟨fun r k h1 h2 => by omega⟩, HBS⟩
 case round =>
  clear HST HBS
  obtain ⟨j, B, V, rfl, HJ, HM, HV, HB⟩ := hrel
  by_cases hj : j = 0
  · subst hj
    go_wp2
    go_ret
    exact ⟨g, B, V, rfl, HM.out.congr (fun r hr => ⟨fun _ => Nat.zero_le r, fun _ => trivial⟩) (fun _ _ _ _ _ => rfl), fun r k => HV.out r k (Nat.zero_le r), HB.out⟩
  · obtain ⟨i, rfl⟩ : ∃ i, j = i + 1 := ⟨j - 1, by omega⟩
    have hji : (((i + 1 : Nat) : Int)) - 1 = (i : Int) := by omega
    rw [hji]
    have n1 : i < n := HJ.out
    have hd : decide ((i : Int) ≥ 0) = true := decide_eq_true (by omega)
    clear hj hji
    have hba := below_alloc (Below.refl wr.heap.size wr) (.cells (madeCells #[.int .i64 0] m) 3)
    have hnew := blk_new wr (.cells (madeCells #[.int .i64 0] m) 3)
    have HM1 := Aside0.mk (HM.out.below hba)
    have HB1 := Aside0.mk (HB.out.alloc HB.out.size (.cells (madeCells #[.int .i64 0] m) 3))
    have k0 := HM1.out.nil0 i n1 (by omega)
    have k1 := HM1.out.fz0 i
    have HNW := Aside0.mk hnew
    have HLG := Aside0.mk HM.out.lt
    have HLB := Aside0.mk (show ∀ r, r < n → i + 1 ≤ r → B r ≠ wr.heap.size from fun r hr hd e => by
     obtain ⟨T, _, h2, _⟩ := HM.out.row r hr hd
     have := blk_lt h2
     omega)
    have HSZ := Aside0.mk HB.out.size
    clear hba hnew HM HB
    go_wp2
    have HM2 := Aside0.mk (HM1.out.new i wr.heap.size (.int .i64 0) n1 (by omega) HSZ.out (by have := HLG.out; omega) (fun r hr hd => HLB.out r hr hd) HNW.out)
    have HB2 := Aside0.mk (below_set (j := i) (v := .slice (some ⟨wr.heap.size, 0, none⟩) m m) HB1.out HM1.out.gb)
    clear k0 k1 HM1 HB1 HNW HLG HLB
    generalize ((wr.alloc (.cells (madeCells #[.int .i64 0] m) 3)).setCell ⟨g, i, none⟩ (.slice (some ⟨wr.heap.size, 0, none⟩) m m)) = w2 at HM2 HB2 ⊢
    obtain ⟨B', hB'⟩ : ∃ B' : Nat → Nat, B' = fun r' => if r' = i then wr.heap.size else B r' := ⟨_, rfl⟩
    rw [← hB'] at HM2
    have HV2 := Aside0.mk (show ∀ r k : Nat, i + 1 ≤ r → r < n → k < m → (if r = i then Value.int .i64 0 else V r k) = .int .i64 (restI a b r k) from fun r k h1 h2 h3 => by rw [if_neg (by omega)]; exact HV.out r k h1 h2 h3)
    obtain ⟨V', hV'⟩ : ∃ V' : Nat → Nat → Value, V' = fun r' k' => if r' = i then .int .i64 0 else V r' k' := ⟨_, rfl⟩
    replace HM2 := Aside0.mk (show Mt w2 w.heap.size g n m 63 3 (fun r => i ≤ r) B' V' by rw [hV']; exact HM2.out.congr (fun r hr => ⟨fun h => by omega, fun h => by omega⟩) (fun _ _ _ _ _ => rfl))
    replace HV2 := Aside0.mk (show ∀ r k : Nat, i + 1 ≤ r → r < n → k < m → V' r k = .int .i64 (restI a b r k) by rw [hV']; exact HV2.out)
    clear HV hB' hV' hd HSZ
    go_loopw [7, 8] (fun s7 s8 wi => ∃ (j : Nat) (V : Nat → Nat → Value), s7 = .int .i64 ((j : Int) - 1) ∧ Aside0 (j ≤ m) ∧ Aside0 (Mt wi w.heap.size g n m 63 3 (fun r => i ≤ r) B' V) ∧ Aside0 ((∀ r k : Nat, i + 1 ≤ r → r < n → k < m → V r k = .int .i64 (restI a b r k)) ∧ (∀ k : Nat, j ≤ k → k < m → V i k = .int .i64 (restI a b i k))) ∧ Aside0 (Below w.heap.size w wi)) (fun s7 _ _ => ((intOf s7) + 1).toNat)
    case atStart => exact ⟨m, V', congrArg _ e2, ⟨Nat.le_refl _⟩, HM2, ⟨HV2.out, fun k h1 h2 => by omega⟩, HB2⟩
    case round =>
     clear HM2 HB2 HV2
     clear V' V B w2
     obtain ⟨j, V, rfl, HK, HM, HV, HB⟩ := hrel
     by_cases hj : j = 0
     · subst hj
       go_wp2
       refine ⟨⟨i, B', V, congrArg _ (wrap_down i (by have := HJ.out; have := HN.out; omega)), ⟨by have := HJ.out; omega⟩, HM, ⟨fun r k h1 h2 h3 => ?_⟩, HB⟩, ?_⟩
       · by_cases hri : r = i
         · subst hri; exact HV.out.2 k (Nat.zero_le k) h3
         · exact HV.out.1 r k (by omega) h2 h3
       · rw [wrap_down i (by have := HJ.out; have := HN.out; omega)]
         exact meas_down i
     · obtain ⟨k, rfl⟩ : ∃ k, j = k + 1 := ⟨j - 1, by omega⟩
       have hji : (((k + 1 : Nat) : Int)) - 1 = (k : Int) := by omega
       rw [hji]
       have n2 : k < m := HK.out
       have hd : decide ((k : Int) ≥ 0) = true := decide_eq_true (by omega)
       clear hj hji
       have hki : k ≤ 1000000 := by have := HK.out; have := HM0.out; omega
       have hii : i ≤ 1000000 := by have := HJ.out; have := HN.out; omega
       have HMi := Aside0.mk (And.intro hki hii)
       clear hki hii
       by_cases c1 : i + 1 < n <;> by_cases c2 : k + 1 < m
       · obtain ⟨i', hi'⟩ : ∃ i', i' = i + 1 := ⟨_, rfl⟩
         have e3 : wrap64 ((i : Int) + 1) = (i' : Int) := by rw [hi']; exact wrap_up i HMi.out.2
         have n3 : i' < n := by omega
         have d1 : decide ((i' : Int) < (n : Int)) = true := decide_eq_true (by omega)
         obtain ⟨k', hk'⟩ : ∃ k', k' = k + 1 := ⟨_, rfl⟩
         have e4 : wrap64 ((k : Int) + 1) = (k' : Int) := by rw [hk']; exact wrap_up k HMi.out.1
         have n4 : k' < m := by omega
         have d2 : decide ((k' : Int) < (m : Int)) = true := decide_eq_true (by omega)
         have k1 := HM.out.cell0 i' n3 (by omega)
         have k2 := HM.out.cell1 i' k n3 (by omega) n2
         rw [HV.out.1 i' k (by omega) n3 n2] at k2
         have k3 := HM.out.cell0 i n1 (Nat.le_refl _)
         have k4 := HM.out.cell1 i k' n1 (Nat.le_refl _) n4
         rw [HV.out.2 k' (by omega) n4] at k4
         have k5 := HM.out.cell1 i' k' n3 (by omega) n4
         rw [HV.out.1 i' k' (by omega) n3 n4] at k5
         have q1 : ¬ ((i : Int) = (n : Int) - 1) := by omega
         have q2 : ((i : Int) == (n : Int) - 1) = false := beq_false_of_ne q1
         have q3 : ¬ ((k : Int) = (m : Int) - 1) := by omega
         have q4 : ((k : Int) == (m : Int) - 1) = false := beq_false_of_ne q3
         have HQ := Aside0.mk (And.intro hi' hk')
         clear hi' hk' c1 c2
         go_upto_region 18 with fail
         have HMB := Aside0.mk (HM.out.below (below_drew (Below.refl wr.heap.size wr)))
         have HBB := Aside0.mk (below_drew1 HB.out)
         have hka := Kd.C_below HR.out.1 HBB.out
         have hkb := Kd.C_below HR.out.2 HBB.out
         obtain ⟨ax, rfl, t0, t1, t2⟩ := at_T79 hka (i : Int) (Int.natCast_nonneg i) (Int.ofNat_lt.2 n1)
         obtain ⟨ay, rfl, u0, u1, u2⟩ := at_T79 hkb (k : Int) (Int.natCast_nonneg k) (Int.ofNat_lt.2 n2)
         rw [rd_ev, Int.toNat_natCast] at t0 t1 t2 u0 u1 u2
         have hgx := rd_good HRo.out.ga (i : Int) ⟨Int.natCast_nonneg i, by rw [← HE1.out.1]; exact Int.ofNat_lt.2 n1⟩
         have hgy := rd_good HRo.out.gb (k : Int) ⟨Int.natCast_nonneg k, by rw [← HE1.out.2]; exact Int.ofNat_lt.2 n2⟩
         have HDI := Aside0.mk (dist_f hgx hgy)
         have HRU := Aside0.mk (show restI a b i k = mx (mn (mn (mn 1000000 (restI a b (i' : Int) (k : Int))) (restI a b (i : Int) (k' : Int))) (restI a b (i' : Int) (k' : Int))) (farD (rd_T59 a i) (rd_T59 b k)) by rw [HQ.out.1, HQ.out.2]; exact rest_both a b i k (by rw [← HE1.out.1, ← HQ.out.1]; exact n3) (by rw [← HE1.out.2, ← HQ.out.2]; exact n4))
         have kq := HMB.out.cell0 i n1 (Nat.le_refl _)
         have kv := HMB.out.cell1 i k n1 (Nat.le_refl _) n2
         clear hka hkb hgx hgy
         obtain ⟨d, hd9⟩ : ∃ d, farD (rd_T59 a i) (rd_T59 b k) = d := ⟨_, rfl⟩
         rw [hd9] at HDI HRU
         clear hd9
         have HKQ := Aside0.mk (And.intro kq (And.intro kv (And.intro t0 (And.intro t1 (And.intro t2 (And.intro u0 (And.intro u1 u2)))))))
         clear kq kv t0 t1 t2 u0 u1 u2
         have HVK := Aside0.mk HV.out
         generalize V i k = v0 at HKQ
         simp only [ev] at HKQ HDI
         generalize (rd_T59 a i).f0 = x0 at HKQ HDI
         generalize (rd_T59 a i).f1 = x1 at HKQ HDI
         generalize (rd_T59 a i).f2 = x2 at HKQ HDI
         generalize (rd_T59 b k).f0 = y0 at HKQ HDI
         generalize (rd_T59 b k).f1 = y1 at HKQ HDI
         generalize (rd_T59 b k).f2 = y2 at HKQ HDI
         obtain ⟨Bi, hBi⟩ : ∃ Bi, Bi = B' i := ⟨_, rfl⟩
         rw [← hBi] at HKQ
         have HBI := Aside0.mk hBi
         clear hBi
         refine start_ (n := 18) (S := fun w' => w'.cell? ⟨g, i, none⟩ = some (.slice (some ⟨Bi, 0, none⟩) m m) ∧ w'.cell? ⟨Bi, k, none⟩ = some v0 ∧ w'.cell? (ax.add (i * 3)) = some (.int .i64 x0) ∧ w'.cell? ⟨(ax.add (i * 3)).block, (ax.add (i * 3)).off + 1, none⟩ = some (.int .i64 x1) ∧ w'.cell? ⟨(ax.add (i * 3)).block, (ax.add (i * 3)).off + 2, none⟩ = some (.int .i64 x2) ∧ w'.cell? (ay.add (k * 3)) = some (.int .i64 y0) ∧ w'.cell? ⟨(ay.add (k * 3)).block, (ay.add (k * 3)).off + 1, none⟩ = some (.int .i64 y1) ∧ w'.cell? ⟨(ay.add (k * 3)).block, (ay.add (k * 3)).off + 2, none⟩ = some (.int .i64 y2)) (ds := [17]) #[false, false, false, false, false, false, false, false, false, false, false, false, false, false, false, false, false, false] (by kernel_rfl) rfl rfl HKQ.out (fun hHeld => ?_)
         refine with_tabW rests18_tab rests18_bits (fun HT_ HW_ => ?_)
         generalize wr.drew = wB at HMB HBB HKQ hHeld ⊢
         refine take_ (i := 0) (N := some 97) (v := ?_) (a' := ?_) #[true, false, false, false, false, false, false, false, false, false, false, false, false, false, false, false, false, false] rfl rfl (take_ofW HT_.out HW_.out (by kernel_rfl)) (fun _ _ _ h => h) (Or.inl ⟨by rfl, ?_⟩) hHeld ?_ ?_
         rotate_left
         · rintro w' ⟨s0, s1, s2, s3, s4, s5, s6, s7⟩
           go_simp
           with_reducible rfl
         rotate_left
         · simp only [Act.put, List.setIfInBounds_toArray, List.set_cons_zero, List.set_cons_succ, i64_w, i32_w]
           rfl
         refine take_ (i := 1) (N := some 98) (v := ?_) (a' := ?_) #[true, true, false, false, false, false, false, false, false, false, false, false, false, false, false, false, false, false] rfl rfl (take_ofW HT_.out HW_.out (by kernel_rfl)) (fun _ _ _ h => h) (Or.inl ⟨by rfl, ?_⟩) hHeld ?_ ?_
         rotate_left
         · rintro w' ⟨s0, s1, s2, s3, s4, s5, s6, s7⟩
           go_simp
           with_reducible rfl
         rotate_left
         · simp only [Act.put, List.setIfInBounds_toArray, List.set_cons_zero, List.set_cons_succ, i64_w, i32_w]
           rfl
         refine take_ (i := 2) (N := some 99) (v := ?_) (a' := ?_) #[true, true, true, false, false, false, false, false, false, false, false, false, false, false, false, false, false, false] rfl rfl (take_ofW HT_.out HW_.out (by kernel_rfl)) (fun _ _ _ h => h) (Or.inl ⟨by rfl, ?_⟩) hHeld ?_ ?_
         rotate_left
         · rintro w' ⟨s0, s1, s2, s3, s4, s5, s6, s7⟩
           go_simp
           with_reducible rfl
         rotate_left
         · simp only [Act.put, List.setIfInBounds_toArray, List.set_cons_zero, List.set_cons_succ, i64_w, i32_w]
           rfl
         refine take_ (i := 3) (N := some 100) (v := ?_) (a' := ?_) #[true, true, true, true, false, false, false, false, false, false, false, false, false, false, false, false, false, false] rfl rfl (take_ofW HT_.out HW_.out (by kernel_rfl)) (fun _ _ _ h => h) (Or.inl ⟨by rfl, ?_⟩) hHeld ?_ ?_
         rotate_left
         · rintro w' ⟨s0, s1, s2, s3, s4, s5, s6, s7⟩
           go_simp
           with_reducible rfl
         rotate_left
         · simp only [Act.put, List.setIfInBounds_toArray, List.set_cons_zero, List.set_cons_succ, i64_w, i32_w]
           rfl
         refine take_ (i := 4) (N := some 101) (v := ?_) (a' := ?_) #[true, true, true, true, true, false, false, false, false, false, false, false, false, false, false, false, false, false] rfl rfl (take_ofW HT_.out HW_.out (by kernel_rfl)) (fun _ _ _ h => h) (Or.inl ⟨by rfl, ?_⟩) hHeld ?_ ?_
         rotate_left
         · rintro w' ⟨s0, s1, s2, s3, s4, s5, s6, s7⟩
           go_simp
           with_reducible rfl
         rotate_left
         · simp only [Act.put, List.setIfInBounds_toArray, List.set_cons_zero, List.set_cons_succ, i64_w, i32_w]
           rfl
         refine take_ (i := 5) (N := some 102) (v := ?_) (a' := ?_) #[true, true, true, true, true, true, false, false, false, false, false, false, false, false, false, false, false, false] rfl rfl (take_ofW HT_.out HW_.out (by kernel_rfl)) (fun _ _ _ h => h) (Or.inl ⟨by rfl, ?_⟩) hHeld ?_ ?_
         rotate_left
         · rintro w' ⟨s0, s1, s2, s3, s4, s5, s6, s7⟩
           go_simp
           with_reducible rfl
         rotate_left
         · simp only [Act.put, List.setIfInBounds_toArray, List.set_cons_zero, List.set_cons_succ, i64_w, i32_w]
           rfl
         refine take_ (i := 6) (N := some 103) (v := ?_) (a' := ?_) #[true, true, true, true, true, true, true, false, false, false, false, false, false, false, false, false, false, false] rfl rfl (take_ofW HT_.out HW_.out (by kernel_rfl)) (fun _ _ _ h => h) (Or.inl ⟨by rfl, ?_⟩) hHeld ?_ ?_
         rotate_left
         · rintro w' ⟨s0, s1, s2, s3, s4, s5, s6, s7⟩
           go_simp
           with_reducible rfl
         rotate_left
         · simp only [Act.put, List.setIfInBounds_toArray, List.set_cons_zero, List.set_cons_succ, i64_w, i32_w]
           rfl
         refine take_ (i := 7) (N := some 104) (v := ?_) (a' := ?_) #[true, true, true, true, true, true, true, true, false, false, false, false, false, false, false, false, false, false] rfl rfl (take_ofW HT_.out HW_.out (by kernel_rfl)) (fun _ _ _ h => h) (Or.inl ⟨by rfl, ?_⟩) hHeld ?_ ?_
         rotate_left
         · rintro w' ⟨s0, s1, s2, s3, s4, s5, s6, s7⟩
           go_simp
           with_reducible rfl
         rotate_left
         · simp only [Act.put, List.setIfInBounds_toArray, List.set_cons_zero, List.set_cons_succ, i64_w, i32_w]
           rfl
         refine take_ (i := 8) (N := some 105) (v := ?_) (a' := ?_) #[true, true, true, true, true, true, true, true, true, false, false, false, false, false, false, false, false, false] rfl rfl (take_ofW HT_.out HW_.out (by kernel_rfl)) (fun _ _ _ h => h) (Or.inl ⟨by rfl, ?_⟩) hHeld ?_ ?_
         rotate_left
         · rintro w' ⟨s0, s1, s2, s3, s4, s5, s6, s7⟩
           go_simp
           with_reducible rfl
         rotate_left
         · simp only [Act.put, List.setIfInBounds_toArray, List.set_cons_zero, List.set_cons_succ, i64_w, i32_w]
           rfl
         refine take_ (i := 9) (N := some 106) (v := ?_) (a' := ?_) #[true, true, true, true, true, true, true, true, true, true, false, false, false, false, false, false, false, false] rfl rfl (take_ofW HT_.out HW_.out (by kernel_rfl)) (fun _ _ _ h => h) (Or.inl ⟨by rfl, ?_⟩) hHeld ?_ ?_
         rotate_left
         · rintro w' ⟨s0, s1, s2, s3, s4, s5, s6, s7⟩
           go_simp
           with_reducible rfl
         rotate_left
         · simp only [Act.put, List.setIfInBounds_toArray, List.set_cons_zero, List.set_cons_succ, i64_w, i32_w]
           rfl
         refine take_ (i := 10) (N := some 107) (v := ?_) (a' := ?_) #[true, true, true, true, true, true, true, true, true, true, true, false, false, false, false, false, false, false] rfl rfl (take_ofW HT_.out HW_.out (by kernel_rfl)) (fun _ _ _ h => h) (Or.inl ⟨by rfl, ?_⟩) hHeld ?_ ?_
         rotate_left
         · rintro w' ⟨s0, s1, s2, s3, s4, s5, s6, s7⟩
           go_simp
           with_reducible rfl
         rotate_left
         · simp only [Act.put, List.setIfInBounds_toArray, List.set_cons_zero, List.set_cons_succ, i64_w, i32_w]
           rfl
         refine take_ (i := 11) (N := some 108) (v := ?_) (a' := ?_) #[true, true, true, true, true, true, true, true, true, true, true, true, false, false, false, false, false, false] rfl rfl (take_ofW HT_.out HW_.out (by kernel_rfl)) (fun _ _ _ h => h) (Or.inl ⟨by rfl, ?_⟩) hHeld ?_ ?_
         rotate_left
         · rintro w' ⟨s0, s1, s2, s3, s4, s5, s6, s7⟩
           go_simp
           with_reducible rfl
         rotate_left
         · simp only [Act.put, List.setIfInBounds_toArray, List.set_cons_zero, List.set_cons_succ, i64_w, i32_w]
           rfl
         refine take_ (i := 12) (N := some 109) (v := ?_) (a' := ?_) #[true, true, true, true, true, true, true, true, true, true, true, true, true, false, false, false, false, false] rfl rfl (take_ofW HT_.out HW_.out (by kernel_rfl)) (fun _ _ _ h => h) (Or.inl ⟨by rfl, ?_⟩) hHeld ?_ ?_
         rotate_left
         · rintro w' ⟨s0, s1, s2, s3, s4, s5, s6, s7⟩
           go_simp
           with_reducible rfl
         rotate_left
         · simp only [Act.put, List.setIfInBounds_toArray, List.set_cons_zero, List.set_cons_succ, i64_w, i32_w]
           rfl
         refine take_ (i := 13) (N := some 110) (v := ?_) (a' := ?_) #[true, true, true, true, true, true, true, true, true, true, true, true, true, true, false, false, false, false] rfl rfl (take_ofW HT_.out HW_.out (by kernel_rfl)) (fun _ _ _ h => h) (Or.inl ⟨by rfl, ?_⟩) hHeld ?_ ?_
         rotate_left
         · rintro w' ⟨s0, s1, s2, s3, s4, s5, s6, s7⟩
           go_simp
           with_reducible rfl
         rotate_left
         · simp only [Act.put, List.setIfInBounds_toArray, List.set_cons_zero, List.set_cons_succ, i64_w, i32_w]
           rfl
         refine one_ (i := 14) (N := some 111) #[true, true, true, true, true, true, true, true, true, true, true, true, true, true, true, false, false, false] rfl rfl (one_of HT_.out (by kernel_rfl)) (by decide) (fun K hK => ?_)
         refine goes_ Try.func49 (by kernel_rfl) rfl #[.agg #[.int .i64 x0, .int .i64 x1, .int .i64 x2], .agg #[.int .i64 y0, .int .i64 y1, .int .i64 y2]] (by rfl) rfl rfl (by (try simp only [List.map_toArray, List.map_cons, List.map_nil]); first | done | rfl) ?_
         refine (pianolaref07_distance.calls x0 x1 x2 y0 y1 y2 d wB HDI.out).mono ?_
         rintro e wC ⟨rfl, hb5⟩
         refine ⟨_, rfl, ?_⟩
         have HMC := Aside0.mk (HMB.out.below hb5)
         have HBC := Aside0.mk (below_then HBB.out HBB.out.size hb5)
         have HK8 := Aside0.mk (And.intro (pw_cell_below hb5 HKQ.out.1) (And.intro (pw_cell_below hb5 HKQ.out.2.1) (And.intro (pw_cell_below hb5 HKQ.out.2.2.1) (And.intro (pw_cell_below hb5 HKQ.out.2.2.2.1) (And.intro (pw_cell_below hb5 HKQ.out.2.2.2.2.1) (And.intro (pw_cell_below hb5 HKQ.out.2.2.2.2.2.1) (And.intro (pw_cell_below hb5 HKQ.out.2.2.2.2.2.2.1) (pw_cell_below hb5 HKQ.out.2.2.2.2.2.2.2))))))))
         clear hb5
         refine hK.out _ _ HK8.out (fun hHeld => ?_)
         clear hK K
         refine norm_ (a' := ?_) ?_ ?_
         rotate_left
         · show Act.put _ (some 111) _ = _
           simp only [Act.put, List.setIfInBounds_toArray, List.set_cons_zero, List.set_cons_succ, i64_w, i32_w]
           rfl
         refine take_ (i := 15) (N := some 112) (v := ?_) (a' := ?_) #[true, true, true, true, true, true, true, true, true, true, true, true, true, true, true, true, false, false] rfl rfl (take_ofW HT_.out HW_.out (by kernel_rfl)) (fun _ _ _ h => h) (Or.inl ⟨by rfl, ?_⟩) hHeld ?_ ?_
         rotate_left
         · rintro w' ⟨s0, s1, s2, s3, s4, s5, s6, s7⟩
           go_simp
           with_reducible rfl
         rotate_left
         · simp only [Act.put, List.setIfInBounds_toArray, List.set_cons_zero, List.set_cons_succ, i64_w, i32_w]
           rfl
         refine take_ (i := 16) (N := some 113) (v := ?_) (a' := ?_) #[true, true, true, true, true, true, true, true, true, true, true, true, true, true, true, true, true, false] rfl rfl (take_ofW HT_.out HW_.out (by kernel_rfl)) (fun _ _ _ h => h) (Or.inl ⟨by rfl, ?_⟩) hHeld ?_ ?_
         rotate_left
         · rintro w' ⟨s0, s1, s2, s3, s4, s5, s6, s7⟩
           go_simp
           with_reducible rfl
         rotate_left
         · simp only [Act.put, List.setIfInBounds_toArray, List.set_cons_zero, List.set_cons_succ, i64_w, i32_w]
           rfl
         have hfz := HMC.out.fz1 i k n1 (Nat.le_refl _)
         rw [← HBI.out] at hfz
         have hcq := hHeld.2.1
         refine last_ (i := 17) (N := none) #[true, true, true, true, true, true, true, true, true, true, true, true, true, true, true, true, true, true] rfl rfl (one_of HT_.out (by kernel_rfl)) (by decide) (fun K hK => ?_)
         refine store_step (by rfl) rfl (w1 := wC.setCell ⟨Bi, k, none⟩ (.int .i64 (mx (mn (mn (mn 1000000 (restI a b (i' : Int) (k : Int))) (restI a b (i : Int) (k' : Int))) (restI a b (i' : Int) (k' : Int))) d))) ?hr ?_
         (case hr => first | (go_simp; done) | (go_simp; rfl))
         refine hK.out _ _ ?_
         clear hK K
         refine done_ (done_of HT_.out (by kernel_rfl)) ?_
         have HMD := Aside0.mk (HMC.out.put i k (.int .i64 (mx (mn (mn (mn 1000000 (restI a b (i' : Int) (k : Int))) (restI a b (i : Int) (k' : Int))) (restI a b (i' : Int) (k' : Int))) d)) n1 (Nat.le_refl _) n2)
         rw [← HBI.out] at HMD
         have HBD := Aside0.mk (below_set (g := Bi) (j := k) (v := .int .i64 (mx (mn (mn (mn 1000000 (restI a b (i' : Int) (k : Int))) (restI a b (i : Int) (k' : Int))) (restI a b (i' : Int) (k' : Int))) d)) HBC.out (by rw [HBI.out]; exact (HMC.out.rb i n1 (Nat.le_refl _)).1))
         clear hfz hcq hHeld HMC HBC HK8 HMB HBB HKQ HT_ HW_
         obtain ⟨vn, hvn⟩ : ∃ vn, mx (mn (mn (mn 1000000 (restI a b (i' : Int) (k : Int))) (restI a b (i : Int) (k' : Int))) (restI a b (i' : Int) (k' : Int))) d = vn := ⟨_, rfl⟩
         rw [hvn] at HRU HMD HBD ⊢
         clear hvn
         generalize wC.setCell ⟨Bi, k, none⟩ (.int .i64 vn) = wD at HMD HBD ⊢
         go_wp2
         refine ⟨⟨k, _, congrArg _ (wrap_down k HMi.out.1), ⟨Nat.le_of_lt n2⟩, HMD, ⟨fun r k' h1 h2 h3 => ?_, fun k' h1 h2 => ?_⟩, HBD⟩, ?_⟩
         · rw [if_neg (fun e => by omega)]; exact HVK.out.1 r k' h1 h2 h3
         · by_cases e : k' = k
           · rw [if_pos ⟨rfl, e⟩, e, HRU.out]
           · rw [if_neg (fun h => e h.2)]; exact HVK.out.2 k' (by omega) h2
         · rw [wrap_down k HMi.out.1]; exact meas_down k
       · obtain ⟨i', hi'⟩ : ∃ i', i' = i + 1 := ⟨_, rfl⟩
         have e3 : wrap64 ((i : Int) + 1) = (i' : Int) := by rw [hi']; exact wrap_up i HMi.out.2
         have n3 : i' < n := by omega
         have d1 : decide ((i' : Int) < (n : Int)) = true := decide_eq_true (by omega)
         have e4 : wrap64 ((k : Int) + 1) = (m : Int) := by rw [wrap_up k HMi.out.1]; omega
         have d2 : decide ((m : Int) < (m : Int)) = false := decide_eq_false (by omega)
         have hkm : k + 1 = m := by omega
         have k1 := HM.out.cell0 i' n3 (by omega)
         have k2 := HM.out.cell1 i' k n3 (by omega) n2
         rw [HV.out.1 i' k (by omega) n3 n2] at k2
         have q1 : ¬ ((i : Int) = (n : Int) - 1) := by omega
         have q2 : ((i : Int) == (n : Int) - 1) = false := beq_false_of_ne q1
         have q3 : (k : Int) = (m : Int) - 1 := by omega
         have q4 : ((k : Int) == (m : Int) - 1) = true := beq_iff_eq.2 q3
         have q3' : decide ((k : Int) = (m : Int) - 1) = true := decide_eq_true q3
         clear q3
         have HQ := Aside0.mk (And.intro hi' hkm)
         clear hi' hkm c1 c2
         go_upto_region 18 with fail
         have HMB := Aside0.mk (HM.out.below (below_drew (Below.refl wr.heap.size wr)))
         have HBB := Aside0.mk (below_drew1 HB.out)
         have hka := Kd.C_below HR.out.1 HBB.out
         have hkb := Kd.C_below HR.out.2 HBB.out
         obtain ⟨ax, rfl, t0, t1, t2⟩ := at_T79 hka (i : Int) (Int.natCast_nonneg i) (Int.ofNat_lt.2 n1)
         obtain ⟨ay, rfl, u0, u1, u2⟩ := at_T79 hkb (k : Int) (Int.natCast_nonneg k) (Int.ofNat_lt.2 n2)
         rw [rd_ev, Int.toNat_natCast] at t0 t1 t2 u0 u1 u2
         have hgx := rd_good HRo.out.ga (i : Int) ⟨Int.natCast_nonneg i, by rw [← HE1.out.1]; exact Int.ofNat_lt.2 n1⟩
         have hgy := rd_good HRo.out.gb (k : Int) ⟨Int.natCast_nonneg k, by rw [← HE1.out.2]; exact Int.ofNat_lt.2 n2⟩
         have HDI := Aside0.mk (dist_f hgx hgy)
         have HRU := Aside0.mk (show restI a b i k = mx (mn 1000000 (restI a b (i' : Int) (k : Int))) (farD (rd_T59 a i) (rd_T59 b k)) by rw [HQ.out.1]; exact rest_down a b i k (by rw [← HE1.out.1, ← HQ.out.1]; exact n3) (HQ.out.2.trans HE1.out.2))
         have kq := HMB.out.cell0 i n1 (Nat.le_refl _)
         have kv := HMB.out.cell1 i k n1 (Nat.le_refl _) n2
         clear hka hkb hgx hgy
         obtain ⟨d, hd9⟩ : ∃ d, farD (rd_T59 a i) (rd_T59 b k) = d := ⟨_, rfl⟩
         rw [hd9] at HDI HRU
         clear hd9
         have HKQ := Aside0.mk (And.intro kq (And.intro kv (And.intro t0 (And.intro t1 (And.intro t2 (And.intro u0 (And.intro u1 u2)))))))
         clear kq kv t0 t1 t2 u0 u1 u2
         have HVK := Aside0.mk HV.out
         generalize V i k = v0 at HKQ
         simp only [ev] at HKQ HDI
         generalize (rd_T59 a i).f0 = x0 at HKQ HDI
         generalize (rd_T59 a i).f1 = x1 at HKQ HDI
         generalize (rd_T59 a i).f2 = x2 at HKQ HDI
         generalize (rd_T59 b k).f0 = y0 at HKQ HDI
         generalize (rd_T59 b k).f1 = y1 at HKQ HDI
         generalize (rd_T59 b k).f2 = y2 at HKQ HDI
         obtain ⟨Bi, hBi⟩ : ∃ Bi, Bi = B' i := ⟨_, rfl⟩
         rw [← hBi] at HKQ
         have HBI := Aside0.mk hBi
         clear hBi
         refine start_ (n := 18) (S := fun w' => w'.cell? ⟨g, i, none⟩ = some (.slice (some ⟨Bi, 0, none⟩) m m) ∧ w'.cell? ⟨Bi, k, none⟩ = some v0 ∧ w'.cell? (ax.add (i * 3)) = some (.int .i64 x0) ∧ w'.cell? ⟨(ax.add (i * 3)).block, (ax.add (i * 3)).off + 1, none⟩ = some (.int .i64 x1) ∧ w'.cell? ⟨(ax.add (i * 3)).block, (ax.add (i * 3)).off + 2, none⟩ = some (.int .i64 x2) ∧ w'.cell? (ay.add (k * 3)) = some (.int .i64 y0) ∧ w'.cell? ⟨(ay.add (k * 3)).block, (ay.add (k * 3)).off + 1, none⟩ = some (.int .i64 y1) ∧ w'.cell? ⟨(ay.add (k * 3)).block, (ay.add (k * 3)).off + 2, none⟩ = some (.int .i64 y2)) (ds := [17]) #[false, false, false, false, false, false, false, false, false, false, false, false, false, false, false, false, false, false] (by kernel_rfl) rfl rfl HKQ.out (fun hHeld => ?_)
         refine with_tabW rests18_tab rests18_bits (fun HT_ HW_ => ?_)
         generalize wr.drew = wB at HMB HBB HKQ hHeld ⊢
         refine take_ (i := 0) (N := some 97) (v := ?_) (a' := ?_) #[true, false, false, false, false, false, false, false, false, false, false, false, false, false, false, false, false, false] rfl rfl (take_ofW HT_.out HW_.out (by kernel_rfl)) (fun _ _ _ h => h) (Or.inl ⟨by rfl, ?_⟩) hHeld ?_ ?_
         rotate_left
         · rintro w' ⟨s0, s1, s2, s3, s4, s5, s6, s7⟩
           go_simp
           with_reducible rfl
         rotate_left
         · simp only [Act.put, List.setIfInBounds_toArray, List.set_cons_zero, List.set_cons_succ, i64_w, i32_w]
           rfl
         refine take_ (i := 1) (N := some 98) (v := ?_) (a' := ?_) #[true, true, false, false, false, false, false, false, false, false, false, false, false, false, false, false, false, false] rfl rfl (take_ofW HT_.out HW_.out (by kernel_rfl)) (fun _ _ _ h => h) (Or.inl ⟨by rfl, ?_⟩) hHeld ?_ ?_
         rotate_left
         · rintro w' ⟨s0, s1, s2, s3, s4, s5, s6, s7⟩
           go_simp
           with_reducible rfl
         rotate_left
         · simp only [Act.put, List.setIfInBounds_toArray, List.set_cons_zero, List.set_cons_succ, i64_w, i32_w]
           rfl
         refine take_ (i := 2) (N := some 99) (v := ?_) (a' := ?_) #[true, true, true, false, false, false, false, false, false, false, false, false, false, false, false, false, false, false] rfl rfl (take_ofW HT_.out HW_.out (by kernel_rfl)) (fun _ _ _ h => h) (Or.inl ⟨by rfl, ?_⟩) hHeld ?_ ?_
         rotate_left
         · rintro w' ⟨s0, s1, s2, s3, s4, s5, s6, s7⟩
           go_simp
           with_reducible rfl
         rotate_left
         · simp only [Act.put, List.setIfInBounds_toArray, List.set_cons_zero, List.set_cons_succ, i64_w, i32_w]
           rfl
         refine take_ (i := 3) (N := some 100) (v := ?_) (a' := ?_) #[true, true, true, true, false, false, false, false, false, false, false, false, false, false, false, false, false, false] rfl rfl (take_ofW HT_.out HW_.out (by kernel_rfl)) (fun _ _ _ h => h) (Or.inl ⟨by rfl, ?_⟩) hHeld ?_ ?_
         rotate_left
         · rintro w' ⟨s0, s1, s2, s3, s4, s5, s6, s7⟩
           go_simp
           with_reducible rfl
         rotate_left
         · simp only [Act.put, List.setIfInBounds_toArray, List.set_cons_zero, List.set_cons_succ, i64_w, i32_w]
           rfl
         refine take_ (i := 4) (N := some 101) (v := ?_) (a' := ?_) #[true, true, true, true, true, false, false, false, false, false, false, false, false, false, false, false, false, false] rfl rfl (take_ofW HT_.out HW_.out (by kernel_rfl)) (fun _ _ _ h => h) (Or.inl ⟨by rfl, ?_⟩) hHeld ?_ ?_
         rotate_left
         · rintro w' ⟨s0, s1, s2, s3, s4, s5, s6, s7⟩
           go_simp
           with_reducible rfl
         rotate_left
         · simp only [Act.put, List.setIfInBounds_toArray, List.set_cons_zero, List.set_cons_succ, i64_w, i32_w]
           rfl
         refine take_ (i := 5) (N := some 102) (v := ?_) (a' := ?_) #[true, true, true, true, true, true, false, false, false, false, false, false, false, false, false, false, false, false] rfl rfl (take_ofW HT_.out HW_.out (by kernel_rfl)) (fun _ _ _ h => h) (Or.inl ⟨by rfl, ?_⟩) hHeld ?_ ?_
         rotate_left
         · rintro w' ⟨s0, s1, s2, s3, s4, s5, s6, s7⟩
           go_simp
           with_reducible rfl
         rotate_left
         · simp only [Act.put, List.setIfInBounds_toArray, List.set_cons_zero, List.set_cons_succ, i64_w, i32_w]
           rfl
         refine take_ (i := 6) (N := some 103) (v := ?_) (a' := ?_) #[true, true, true, true, true, true, true, false, false, false, false, false, false, false, false, false, false, false] rfl rfl (take_ofW HT_.out HW_.out (by kernel_rfl)) (fun _ _ _ h => h) (Or.inl ⟨by rfl, ?_⟩) hHeld ?_ ?_
         rotate_left
         · rintro w' ⟨s0, s1, s2, s3, s4, s5, s6, s7⟩
           go_simp
           with_reducible rfl
         rotate_left
         · simp only [Act.put, List.setIfInBounds_toArray, List.set_cons_zero, List.set_cons_succ, i64_w, i32_w]
           rfl
         refine take_ (i := 7) (N := some 104) (v := ?_) (a' := ?_) #[true, true, true, true, true, true, true, true, false, false, false, false, false, false, false, false, false, false] rfl rfl (take_ofW HT_.out HW_.out (by kernel_rfl)) (fun _ _ _ h => h) (Or.inl ⟨by rfl, ?_⟩) hHeld ?_ ?_
         rotate_left
         · rintro w' ⟨s0, s1, s2, s3, s4, s5, s6, s7⟩
           go_simp
           with_reducible rfl
         rotate_left
         · simp only [Act.put, List.setIfInBounds_toArray, List.set_cons_zero, List.set_cons_succ, i64_w, i32_w]
           rfl
         refine take_ (i := 8) (N := some 105) (v := ?_) (a' := ?_) #[true, true, true, true, true, true, true, true, true, false, false, false, false, false, false, false, false, false] rfl rfl (take_ofW HT_.out HW_.out (by kernel_rfl)) (fun _ _ _ h => h) (Or.inl ⟨by rfl, ?_⟩) hHeld ?_ ?_
         rotate_left
         · rintro w' ⟨s0, s1, s2, s3, s4, s5, s6, s7⟩
           go_simp
           with_reducible rfl
         rotate_left
         · simp only [Act.put, List.setIfInBounds_toArray, List.set_cons_zero, List.set_cons_succ, i64_w, i32_w]
           rfl
         refine take_ (i := 9) (N := some 106) (v := ?_) (a' := ?_) #[true, true, true, true, true, true, true, true, true, true, false, false, false, false, false, false, false, false] rfl rfl (take_ofW HT_.out HW_.out (by kernel_rfl)) (fun _ _ _ h => h) (Or.inl ⟨by rfl, ?_⟩) hHeld ?_ ?_
         rotate_left
         · rintro w' ⟨s0, s1, s2, s3, s4, s5, s6, s7⟩
           go_simp
           with_reducible rfl
         rotate_left
         · simp only [Act.put, List.setIfInBounds_toArray, List.set_cons_zero, List.set_cons_succ, i64_w, i32_w]
           rfl
         refine take_ (i := 10) (N := some 107) (v := ?_) (a' := ?_) #[true, true, true, true, true, true, true, true, true, true, true, false, false, false, false, false, false, false] rfl rfl (take_ofW HT_.out HW_.out (by kernel_rfl)) (fun _ _ _ h => h) (Or.inl ⟨by rfl, ?_⟩) hHeld ?_ ?_
         rotate_left
         · rintro w' ⟨s0, s1, s2, s3, s4, s5, s6, s7⟩
           go_simp
           with_reducible rfl
         rotate_left
         · simp only [Act.put, List.setIfInBounds_toArray, List.set_cons_zero, List.set_cons_succ, i64_w, i32_w]
           rfl
         refine take_ (i := 11) (N := some 108) (v := ?_) (a' := ?_) #[true, true, true, true, true, true, true, true, true, true, true, true, false, false, false, false, false, false] rfl rfl (take_ofW HT_.out HW_.out (by kernel_rfl)) (fun _ _ _ h => h) (Or.inl ⟨by rfl, ?_⟩) hHeld ?_ ?_
         rotate_left
         · rintro w' ⟨s0, s1, s2, s3, s4, s5, s6, s7⟩
           go_simp
           with_reducible rfl
         rotate_left
         · simp only [Act.put, List.setIfInBounds_toArray, List.set_cons_zero, List.set_cons_succ, i64_w, i32_w]
           rfl
         refine take_ (i := 12) (N := some 109) (v := ?_) (a' := ?_) #[true, true, true, true, true, true, true, true, true, true, true, true, true, false, false, false, false, false] rfl rfl (take_ofW HT_.out HW_.out (by kernel_rfl)) (fun _ _ _ h => h) (Or.inl ⟨by rfl, ?_⟩) hHeld ?_ ?_
         rotate_left
         · rintro w' ⟨s0, s1, s2, s3, s4, s5, s6, s7⟩
           go_simp
           with_reducible rfl
         rotate_left
         · simp only [Act.put, List.setIfInBounds_toArray, List.set_cons_zero, List.set_cons_succ, i64_w, i32_w]
           rfl
         refine take_ (i := 13) (N := some 110) (v := ?_) (a' := ?_) #[true, true, true, true, true, true, true, true, true, true, true, true, true, true, false, false, false, false] rfl rfl (take_ofW HT_.out HW_.out (by kernel_rfl)) (fun _ _ _ h => h) (Or.inl ⟨by rfl, ?_⟩) hHeld ?_ ?_
         rotate_left
         · rintro w' ⟨s0, s1, s2, s3, s4, s5, s6, s7⟩
           go_simp
           with_reducible rfl
         rotate_left
         · simp only [Act.put, List.setIfInBounds_toArray, List.set_cons_zero, List.set_cons_succ, i64_w, i32_w]
           rfl
         refine one_ (i := 14) (N := some 111) #[true, true, true, true, true, true, true, true, true, true, true, true, true, true, true, false, false, false] rfl rfl (one_of HT_.out (by kernel_rfl)) (by decide) (fun K hK => ?_)
         refine goes_ Try.func49 (by kernel_rfl) rfl #[.agg #[.int .i64 x0, .int .i64 x1, .int .i64 x2], .agg #[.int .i64 y0, .int .i64 y1, .int .i64 y2]] (by rfl) rfl rfl (by (try simp only [List.map_toArray, List.map_cons, List.map_nil]); first | done | rfl) ?_
         refine (pianolaref07_distance.calls x0 x1 x2 y0 y1 y2 d wB HDI.out).mono ?_
         rintro e wC ⟨rfl, hb5⟩
         refine ⟨_, rfl, ?_⟩
         have HMC := Aside0.mk (HMB.out.below hb5)
         have HBC := Aside0.mk (below_then HBB.out HBB.out.size hb5)
         have HK8 := Aside0.mk (And.intro (pw_cell_below hb5 HKQ.out.1) (And.intro (pw_cell_below hb5 HKQ.out.2.1) (And.intro (pw_cell_below hb5 HKQ.out.2.2.1) (And.intro (pw_cell_below hb5 HKQ.out.2.2.2.1) (And.intro (pw_cell_below hb5 HKQ.out.2.2.2.2.1) (And.intro (pw_cell_below hb5 HKQ.out.2.2.2.2.2.1) (And.intro (pw_cell_below hb5 HKQ.out.2.2.2.2.2.2.1) (pw_cell_below hb5 HKQ.out.2.2.2.2.2.2.2))))))))
         clear hb5
         refine hK.out _ _ HK8.out (fun hHeld => ?_)
         clear hK K
         refine norm_ (a' := ?_) ?_ ?_
         rotate_left
         · show Act.put _ (some 111) _ = _
           simp only [Act.put, List.setIfInBounds_toArray, List.set_cons_zero, List.set_cons_succ, i64_w, i32_w]
           rfl
         refine take_ (i := 15) (N := some 112) (v := ?_) (a' := ?_) #[true, true, true, true, true, true, true, true, true, true, true, true, true, true, true, true, false, false] rfl rfl (take_ofW HT_.out HW_.out (by kernel_rfl)) (fun _ _ _ h => h) (Or.inl ⟨by rfl, ?_⟩) hHeld ?_ ?_
         rotate_left
         · rintro w' ⟨s0, s1, s2, s3, s4, s5, s6, s7⟩
           go_simp
           with_reducible rfl
         rotate_left
         · simp only [Act.put, List.setIfInBounds_toArray, List.set_cons_zero, List.set_cons_succ, i64_w, i32_w]
           rfl
         refine take_ (i := 16) (N := some 113) (v := ?_) (a' := ?_) #[true, true, true, true, true, true, true, true, true, true, true, true, true, true, true, true, true, false] rfl rfl (take_ofW HT_.out HW_.out (by kernel_rfl)) (fun _ _ _ h => h) (Or.inl ⟨by rfl, ?_⟩) hHeld ?_ ?_
         rotate_left
         · rintro w' ⟨s0, s1, s2, s3, s4, s5, s6, s7⟩
           go_simp
           with_reducible rfl
         rotate_left
         · simp only [Act.put, List.setIfInBounds_toArray, List.set_cons_zero, List.set_cons_succ, i64_w, i32_w]
           rfl
         have hfz := HMC.out.fz1 i k n1 (Nat.le_refl _)
         rw [← HBI.out] at hfz
         have hcq := hHeld.2.1
         refine last_ (i := 17) (N := none) #[true, true, true, true, true, true, true, true, true, true, true, true, true, true, true, true, true, true] rfl rfl (one_of HT_.out (by kernel_rfl)) (by decide) (fun K hK => ?_)
         refine store_step (by rfl) rfl (w1 := wC.setCell ⟨Bi, k, none⟩ (.int .i64 (mx (mn 1000000 (restI a b (i' : Int) (k : Int))) d))) ?hr ?_
         (case hr => first | (go_simp; done) | (go_simp; rfl))
         refine hK.out _ _ ?_
         clear hK K
         refine done_ (done_of HT_.out (by kernel_rfl)) ?_
         have HMD := Aside0.mk (HMC.out.put i k (.int .i64 (mx (mn 1000000 (restI a b (i' : Int) (k : Int))) d)) n1 (Nat.le_refl _) n2)
         rw [← HBI.out] at HMD
         have HBD := Aside0.mk (below_set (g := Bi) (j := k) (v := .int .i64 (mx (mn 1000000 (restI a b (i' : Int) (k : Int))) d)) HBC.out (by rw [HBI.out]; exact (HMC.out.rb i n1 (Nat.le_refl _)).1))
         clear hfz hcq hHeld HMC HBC HK8 HMB HBB HKQ HT_ HW_
         obtain ⟨vn, hvn⟩ : ∃ vn, mx (mn 1000000 (restI a b (i' : Int) (k : Int))) d = vn := ⟨_, rfl⟩
         rw [hvn] at HRU HMD HBD ⊢
         clear hvn
         generalize wC.setCell ⟨Bi, k, none⟩ (.int .i64 vn) = wD at HMD HBD ⊢
         go_wp2
         refine ⟨⟨k, _, congrArg _ (wrap_down k HMi.out.1), ⟨Nat.le_of_lt n2⟩, HMD, ⟨fun r k' h1 h2 h3 => ?_, fun k' h1 h2 => ?_⟩, HBD⟩, ?_⟩
         · rw [if_neg (fun e => by omega)]; exact HVK.out.1 r k' h1 h2 h3
         · by_cases e : k' = k
           · rw [if_pos ⟨rfl, e⟩, e, HRU.out]
           · rw [if_neg (fun h => e h.2)]; exact HVK.out.2 k' (by omega) h2
         · rw [wrap_down k HMi.out.1]; exact meas_down k
       · have e3 : wrap64 ((i : Int) + 1) = (n : Int) := by rw [wrap_up i HMi.out.2]; omega
         have d1 : decide ((n : Int) < (n : Int)) = false := decide_eq_false (by omega)
         have hin : i + 1 = n := by omega
         obtain ⟨k', hk'⟩ : ∃ k', k' = k + 1 := ⟨_, rfl⟩
         have e4 : wrap64 ((k : Int) + 1) = (k' : Int) := by rw [hk']; exact wrap_up k HMi.out.1
         have n4 : k' < m := by omega
         have d2 : decide ((k' : Int) < (m : Int)) = true := decide_eq_true (by omega)
         have k3 := HM.out.cell0 i n1 (Nat.le_refl _)
         have k4 := HM.out.cell1 i k' n1 (Nat.le_refl _) n4
         rw [HV.out.2 k' (by omega) n4] at k4
         have q1 : (i : Int) = (n : Int) - 1 := by omega
         have q2 : ((i : Int) == (n : Int) - 1) = true := beq_iff_eq.2 q1
         have q1' : decide ((i : Int) = (n : Int) - 1) = true := decide_eq_true q1
         clear q1
         have q3 : ¬ ((k : Int) = (m : Int) - 1) := by omega
         have q4 : ((k : Int) == (m : Int) - 1) = false := beq_false_of_ne q3
         have HQ := Aside0.mk (And.intro hin hk')
         clear hin hk' c1 c2
         go_upto_region 18 with fail
         have HMB := Aside0.mk (HM.out.below (below_drew (Below.refl wr.heap.size wr)))
         have HBB := Aside0.mk (below_drew1 HB.out)
         have hka := Kd.C_below HR.out.1 HBB.out
         have hkb := Kd.C_below HR.out.2 HBB.out
         obtain ⟨ax, rfl, t0, t1, t2⟩ := at_T79 hka (i : Int) (Int.natCast_nonneg i) (Int.ofNat_lt.2 n1)
         obtain ⟨ay, rfl, u0, u1, u2⟩ := at_T79 hkb (k : Int) (Int.natCast_nonneg k) (Int.ofNat_lt.2 n2)
         rw [rd_ev, Int.toNat_natCast] at t0 t1 t2 u0 u1 u2
         have hgx := rd_good HRo.out.ga (i : Int) ⟨Int.natCast_nonneg i, by rw [← HE1.out.1]; exact Int.ofNat_lt.2 n1⟩
         have hgy := rd_good HRo.out.gb (k : Int) ⟨Int.natCast_nonneg k, by rw [← HE1.out.2]; exact Int.ofNat_lt.2 n2⟩
         have HDI := Aside0.mk (dist_f hgx hgy)
         have HRU := Aside0.mk (show restI a b i k = mx (mn 1000000 (restI a b (i : Int) (k' : Int))) (farD (rd_T59 a i) (rd_T59 b k)) by rw [HQ.out.2]; exact rest_right a b i k (HQ.out.1.trans HE1.out.1) (by rw [← HE1.out.2, ← HQ.out.2]; exact n4))
         have kq := HMB.out.cell0 i n1 (Nat.le_refl _)
         have kv := HMB.out.cell1 i k n1 (Nat.le_refl _) n2
         clear hka hkb hgx hgy
         obtain ⟨d, hd9⟩ : ∃ d, farD (rd_T59 a i) (rd_T59 b k) = d := ⟨_, rfl⟩
         rw [hd9] at HDI HRU
         clear hd9
         have HKQ := Aside0.mk (And.intro kq (And.intro kv (And.intro t0 (And.intro t1 (And.intro t2 (And.intro u0 (And.intro u1 u2)))))))
         clear kq kv t0 t1 t2 u0 u1 u2
         have HVK := Aside0.mk HV.out
         generalize V i k = v0 at HKQ
         simp only [ev] at HKQ HDI
         generalize (rd_T59 a i).f0 = x0 at HKQ HDI
         generalize (rd_T59 a i).f1 = x1 at HKQ HDI
         generalize (rd_T59 a i).f2 = x2 at HKQ HDI
         generalize (rd_T59 b k).f0 = y0 at HKQ HDI
         generalize (rd_T59 b k).f1 = y1 at HKQ HDI
         generalize (rd_T59 b k).f2 = y2 at HKQ HDI
         obtain ⟨Bi, hBi⟩ : ∃ Bi, Bi = B' i := ⟨_, rfl⟩
         rw [← hBi] at HKQ
         have HBI := Aside0.mk hBi
         clear hBi
         refine start_ (n := 18) (S := fun w' => w'.cell? ⟨g, i, none⟩ = some (.slice (some ⟨Bi, 0, none⟩) m m) ∧ w'.cell? ⟨Bi, k, none⟩ = some v0 ∧ w'.cell? (ax.add (i * 3)) = some (.int .i64 x0) ∧ w'.cell? ⟨(ax.add (i * 3)).block, (ax.add (i * 3)).off + 1, none⟩ = some (.int .i64 x1) ∧ w'.cell? ⟨(ax.add (i * 3)).block, (ax.add (i * 3)).off + 2, none⟩ = some (.int .i64 x2) ∧ w'.cell? (ay.add (k * 3)) = some (.int .i64 y0) ∧ w'.cell? ⟨(ay.add (k * 3)).block, (ay.add (k * 3)).off + 1, none⟩ = some (.int .i64 y1) ∧ w'.cell? ⟨(ay.add (k * 3)).block, (ay.add (k * 3)).off + 2, none⟩ = some (.int .i64 y2)) (ds := [17]) #[false, false, false, false, false, false, false, false, false, false, false, false, false, false, false, false, false, false] (by kernel_rfl) rfl rfl HKQ.out (fun hHeld => ?_)
         refine with_tabW rests18_tab rests18_bits (fun HT_ HW_ => ?_)
         generalize wr.drew = wB at HMB HBB HKQ hHeld ⊢
         refine take_ (i := 0) (N := some 97) (v := ?_) (a' := ?_) #[true, false, false, false, false, false, false, false, false, false, false, false, false, false, false, false, false, false] rfl rfl (take_ofW HT_.out HW_.out (by kernel_rfl)) (fun _ _ _ h => h) (Or.inl ⟨by rfl, ?_⟩) hHeld ?_ ?_
         rotate_left
         · rintro w' ⟨s0, s1, s2, s3, s4, s5, s6, s7⟩
           go_simp
           with_reducible rfl
         rotate_left
         · simp only [Act.put, List.setIfInBounds_toArray, List.set_cons_zero, List.set_cons_succ, i64_w, i32_w]
           rfl
         refine take_ (i := 1) (N := some 98) (v := ?_) (a' := ?_) #[true, true, false, false, false, false, false, false, false, false, false, false, false, false, false, false, false, false] rfl rfl (take_ofW HT_.out HW_.out (by kernel_rfl)) (fun _ _ _ h => h) (Or.inl ⟨by rfl, ?_⟩) hHeld ?_ ?_
         rotate_left
         · rintro w' ⟨s0, s1, s2, s3, s4, s5, s6, s7⟩
           go_simp
           with_reducible rfl
         rotate_left
         · simp only [Act.put, List.setIfInBounds_toArray, List.set_cons_zero, List.set_cons_succ, i64_w, i32_w]
           rfl
         refine take_ (i := 2) (N := some 99) (v := ?_) (a' := ?_) #[true, true, true, false, false, false, false, false, false, false, false, false, false, false, false, false, false, false] rfl rfl (take_ofW HT_.out HW_.out (by kernel_rfl)) (fun _ _ _ h => h) (Or.inl ⟨by rfl, ?_⟩) hHeld ?_ ?_
         rotate_left
         · rintro w' ⟨s0, s1, s2, s3, s4, s5, s6, s7⟩
           go_simp
           with_reducible rfl
         rotate_left
         · simp only [Act.put, List.setIfInBounds_toArray, List.set_cons_zero, List.set_cons_succ, i64_w, i32_w]
           rfl
         refine take_ (i := 3) (N := some 100) (v := ?_) (a' := ?_) #[true, true, true, true, false, false, false, false, false, false, false, false, false, false, false, false, false, false] rfl rfl (take_ofW HT_.out HW_.out (by kernel_rfl)) (fun _ _ _ h => h) (Or.inl ⟨by rfl, ?_⟩) hHeld ?_ ?_
         rotate_left
         · rintro w' ⟨s0, s1, s2, s3, s4, s5, s6, s7⟩
           go_simp
           with_reducible rfl
         rotate_left
         · simp only [Act.put, List.setIfInBounds_toArray, List.set_cons_zero, List.set_cons_succ, i64_w, i32_w]
           rfl
         refine take_ (i := 4) (N := some 101) (v := ?_) (a' := ?_) #[true, true, true, true, true, false, false, false, false, false, false, false, false, false, false, false, false, false] rfl rfl (take_ofW HT_.out HW_.out (by kernel_rfl)) (fun _ _ _ h => h) (Or.inl ⟨by rfl, ?_⟩) hHeld ?_ ?_
         rotate_left
         · rintro w' ⟨s0, s1, s2, s3, s4, s5, s6, s7⟩
           go_simp
           with_reducible rfl
         rotate_left
         · simp only [Act.put, List.setIfInBounds_toArray, List.set_cons_zero, List.set_cons_succ, i64_w, i32_w]
           rfl
         refine take_ (i := 5) (N := some 102) (v := ?_) (a' := ?_) #[true, true, true, true, true, true, false, false, false, false, false, false, false, false, false, false, false, false] rfl rfl (take_ofW HT_.out HW_.out (by kernel_rfl)) (fun _ _ _ h => h) (Or.inl ⟨by rfl, ?_⟩) hHeld ?_ ?_
         rotate_left
         · rintro w' ⟨s0, s1, s2, s3, s4, s5, s6, s7⟩
           go_simp
           with_reducible rfl
         rotate_left
         · simp only [Act.put, List.setIfInBounds_toArray, List.set_cons_zero, List.set_cons_succ, i64_w, i32_w]
           rfl
         refine take_ (i := 6) (N := some 103) (v := ?_) (a' := ?_) #[true, true, true, true, true, true, true, false, false, false, false, false, false, false, false, false, false, false] rfl rfl (take_ofW HT_.out HW_.out (by kernel_rfl)) (fun _ _ _ h => h) (Or.inl ⟨by rfl, ?_⟩) hHeld ?_ ?_
         rotate_left
         · rintro w' ⟨s0, s1, s2, s3, s4, s5, s6, s7⟩
           go_simp
           with_reducible rfl
         rotate_left
         · simp only [Act.put, List.setIfInBounds_toArray, List.set_cons_zero, List.set_cons_succ, i64_w, i32_w]
           rfl
         refine take_ (i := 7) (N := some 104) (v := ?_) (a' := ?_) #[true, true, true, true, true, true, true, true, false, false, false, false, false, false, false, false, false, false] rfl rfl (take_ofW HT_.out HW_.out (by kernel_rfl)) (fun _ _ _ h => h) (Or.inl ⟨by rfl, ?_⟩) hHeld ?_ ?_
         rotate_left
         · rintro w' ⟨s0, s1, s2, s3, s4, s5, s6, s7⟩
           go_simp
           with_reducible rfl
         rotate_left
         · simp only [Act.put, List.setIfInBounds_toArray, List.set_cons_zero, List.set_cons_succ, i64_w, i32_w]
           rfl
         refine take_ (i := 8) (N := some 105) (v := ?_) (a' := ?_) #[true, true, true, true, true, true, true, true, true, false, false, false, false, false, false, false, false, false] rfl rfl (take_ofW HT_.out HW_.out (by kernel_rfl)) (fun _ _ _ h => h) (Or.inl ⟨by rfl, ?_⟩) hHeld ?_ ?_
         rotate_left
         · rintro w' ⟨s0, s1, s2, s3, s4, s5, s6, s7⟩
           go_simp
           with_reducible rfl
         rotate_left
         · simp only [Act.put, List.setIfInBounds_toArray, List.set_cons_zero, List.set_cons_succ, i64_w, i32_w]
           rfl
         refine take_ (i := 9) (N := some 106) (v := ?_) (a' := ?_) #[true, true, true, true, true, true, true, true, true, true, false, false, false, false, false, false, false, false] rfl rfl (take_ofW HT_.out HW_.out (by kernel_rfl)) (fun _ _ _ h => h) (Or.inl ⟨by rfl, ?_⟩) hHeld ?_ ?_
         rotate_left
         · rintro w' ⟨s0, s1, s2, s3, s4, s5, s6, s7⟩
           go_simp
           with_reducible rfl
         rotate_left
         · simp only [Act.put, List.setIfInBounds_toArray, List.set_cons_zero, List.set_cons_succ, i64_w, i32_w]
           rfl
         refine take_ (i := 10) (N := some 107) (v := ?_) (a' := ?_) #[true, true, true, true, true, true, true, true, true, true, true, false, false, false, false, false, false, false] rfl rfl (take_ofW HT_.out HW_.out (by kernel_rfl)) (fun _ _ _ h => h) (Or.inl ⟨by rfl, ?_⟩) hHeld ?_ ?_
         rotate_left
         · rintro w' ⟨s0, s1, s2, s3, s4, s5, s6, s7⟩
           go_simp
           with_reducible rfl
         rotate_left
         · simp only [Act.put, List.setIfInBounds_toArray, List.set_cons_zero, List.set_cons_succ, i64_w, i32_w]
           rfl
         refine take_ (i := 11) (N := some 108) (v := ?_) (a' := ?_) #[true, true, true, true, true, true, true, true, true, true, true, true, false, false, false, false, false, false] rfl rfl (take_ofW HT_.out HW_.out (by kernel_rfl)) (fun _ _ _ h => h) (Or.inl ⟨by rfl, ?_⟩) hHeld ?_ ?_
         rotate_left
         · rintro w' ⟨s0, s1, s2, s3, s4, s5, s6, s7⟩
           go_simp
           with_reducible rfl
         rotate_left
         · simp only [Act.put, List.setIfInBounds_toArray, List.set_cons_zero, List.set_cons_succ, i64_w, i32_w]
           rfl
         refine take_ (i := 12) (N := some 109) (v := ?_) (a' := ?_) #[true, true, true, true, true, true, true, true, true, true, true, true, true, false, false, false, false, false] rfl rfl (take_ofW HT_.out HW_.out (by kernel_rfl)) (fun _ _ _ h => h) (Or.inl ⟨by rfl, ?_⟩) hHeld ?_ ?_
         rotate_left
         · rintro w' ⟨s0, s1, s2, s3, s4, s5, s6, s7⟩
           go_simp
           with_reducible rfl
         rotate_left
         · simp only [Act.put, List.setIfInBounds_toArray, List.set_cons_zero, List.set_cons_succ, i64_w, i32_w]
           rfl
         refine take_ (i := 13) (N := some 110) (v := ?_) (a' := ?_) #[true, true, true, true, true, true, true, true, true, true, true, true, true, true, false, false, false, false] rfl rfl (take_ofW HT_.out HW_.out (by kernel_rfl)) (fun _ _ _ h => h) (Or.inl ⟨by rfl, ?_⟩) hHeld ?_ ?_
         rotate_left
         · rintro w' ⟨s0, s1, s2, s3, s4, s5, s6, s7⟩
           go_simp
           with_reducible rfl
         rotate_left
         · simp only [Act.put, List.setIfInBounds_toArray, List.set_cons_zero, List.set_cons_succ, i64_w, i32_w]
           rfl
         refine one_ (i := 14) (N := some 111) #[true, true, true, true, true, true, true, true, true, true, true, true, true, true, true, false, false, false] rfl rfl (one_of HT_.out (by kernel_rfl)) (by decide) (fun K hK => ?_)
         refine goes_ Try.func49 (by kernel_rfl) rfl #[.agg #[.int .i64 x0, .int .i64 x1, .int .i64 x2], .agg #[.int .i64 y0, .int .i64 y1, .int .i64 y2]] (by rfl) rfl rfl (by (try simp only [List.map_toArray, List.map_cons, List.map_nil]); first | done | rfl) ?_
         refine (pianolaref07_distance.calls x0 x1 x2 y0 y1 y2 d wB HDI.out).mono ?_
         rintro e wC ⟨rfl, hb5⟩
         refine ⟨_, rfl, ?_⟩
         have HMC := Aside0.mk (HMB.out.below hb5)
         have HBC := Aside0.mk (below_then HBB.out HBB.out.size hb5)
         have HK8 := Aside0.mk (And.intro (pw_cell_below hb5 HKQ.out.1) (And.intro (pw_cell_below hb5 HKQ.out.2.1) (And.intro (pw_cell_below hb5 HKQ.out.2.2.1) (And.intro (pw_cell_below hb5 HKQ.out.2.2.2.1) (And.intro (pw_cell_below hb5 HKQ.out.2.2.2.2.1) (And.intro (pw_cell_below hb5 HKQ.out.2.2.2.2.2.1) (And.intro (pw_cell_below hb5 HKQ.out.2.2.2.2.2.2.1) (pw_cell_below hb5 HKQ.out.2.2.2.2.2.2.2))))))))
         clear hb5
         refine hK.out _ _ HK8.out (fun hHeld => ?_)
         clear hK K
         refine norm_ (a' := ?_) ?_ ?_
         rotate_left
         · show Act.put _ (some 111) _ = _
           simp only [Act.put, List.setIfInBounds_toArray, List.set_cons_zero, List.set_cons_succ, i64_w, i32_w]
           rfl
         refine take_ (i := 15) (N := some 112) (v := ?_) (a' := ?_) #[true, true, true, true, true, true, true, true, true, true, true, true, true, true, true, true, false, false] rfl rfl (take_ofW HT_.out HW_.out (by kernel_rfl)) (fun _ _ _ h => h) (Or.inl ⟨by rfl, ?_⟩) hHeld ?_ ?_
         rotate_left
         · rintro w' ⟨s0, s1, s2, s3, s4, s5, s6, s7⟩
           go_simp
           with_reducible rfl
         rotate_left
         · simp only [Act.put, List.setIfInBounds_toArray, List.set_cons_zero, List.set_cons_succ, i64_w, i32_w]
           rfl
         refine take_ (i := 16) (N := some 113) (v := ?_) (a' := ?_) #[true, true, true, true, true, true, true, true, true, true, true, true, true, true, true, true, true, false] rfl rfl (take_ofW HT_.out HW_.out (by kernel_rfl)) (fun _ _ _ h => h) (Or.inl ⟨by rfl, ?_⟩) hHeld ?_ ?_
         rotate_left
         · rintro w' ⟨s0, s1, s2, s3, s4, s5, s6, s7⟩
           go_simp
           with_reducible rfl
         rotate_left
         · simp only [Act.put, List.setIfInBounds_toArray, List.set_cons_zero, List.set_cons_succ, i64_w, i32_w]
           rfl
         have hfz := HMC.out.fz1 i k n1 (Nat.le_refl _)
         rw [← HBI.out] at hfz
         have hcq := hHeld.2.1
         refine last_ (i := 17) (N := none) #[true, true, true, true, true, true, true, true, true, true, true, true, true, true, true, true, true, true] rfl rfl (one_of HT_.out (by kernel_rfl)) (by decide) (fun K hK => ?_)
         refine store_step (by rfl) rfl (w1 := wC.setCell ⟨Bi, k, none⟩ (.int .i64 (mx (mn 1000000 (restI a b (i : Int) (k' : Int))) d))) ?hr ?_
         (case hr => first | (go_simp; done) | (go_simp; rfl))
         refine hK.out _ _ ?_
         clear hK K
         refine done_ (done_of HT_.out (by kernel_rfl)) ?_
         have HMD := Aside0.mk (HMC.out.put i k (.int .i64 (mx (mn 1000000 (restI a b (i : Int) (k' : Int))) d)) n1 (Nat.le_refl _) n2)
         rw [← HBI.out] at HMD
         have HBD := Aside0.mk (below_set (g := Bi) (j := k) (v := .int .i64 (mx (mn 1000000 (restI a b (i : Int) (k' : Int))) d)) HBC.out (by rw [HBI.out]; exact (HMC.out.rb i n1 (Nat.le_refl _)).1))
         clear hfz hcq hHeld HMC HBC HK8 HMB HBB HKQ HT_ HW_
         obtain ⟨vn, hvn⟩ : ∃ vn, mx (mn 1000000 (restI a b (i : Int) (k' : Int))) d = vn := ⟨_, rfl⟩
         rw [hvn] at HRU HMD HBD ⊢
         clear hvn
         generalize wC.setCell ⟨Bi, k, none⟩ (.int .i64 vn) = wD at HMD HBD ⊢
         go_wp2
         refine ⟨⟨k, _, congrArg _ (wrap_down k HMi.out.1), ⟨Nat.le_of_lt n2⟩, HMD, ⟨fun r k' h1 h2 h3 => ?_, fun k' h1 h2 => ?_⟩, HBD⟩, ?_⟩
         · rw [if_neg (fun e => by omega)]; exact HVK.out.1 r k' h1 h2 h3
         · by_cases e : k' = k
           · rw [if_pos ⟨rfl, e⟩, e, HRU.out]
           · rw [if_neg (fun h => e h.2)]; exact HVK.out.2 k' (by omega) h2
         · rw [wrap_down k HMi.out.1]; exact meas_down k
       · have e3 : wrap64 ((i : Int) + 1) = (n : Int) := by rw [wrap_up i HMi.out.2]; omega
         have d1 : decide ((n : Int) < (n : Int)) = false := decide_eq_false (by omega)
         have hin : i + 1 = n := by omega
         have e4 : wrap64 ((k : Int) + 1) = (m : Int) := by rw [wrap_up k HMi.out.1]; omega
         have d2 : decide ((m : Int) < (m : Int)) = false := decide_eq_false (by omega)
         have hkm : k + 1 = m := by omega
         have q1 : (i : Int) = (n : Int) - 1 := by omega
         have q2 : ((i : Int) == (n : Int) - 1) = true := beq_iff_eq.2 q1
         have q1' : decide ((i : Int) = (n : Int) - 1) = true := decide_eq_true q1
         clear q1
         have q3 : (k : Int) = (m : Int) - 1 := by omega
         have q4 : ((k : Int) == (m : Int) - 1) = true := beq_iff_eq.2 q3
         have q3' : decide ((k : Int) = (m : Int) - 1) = true := decide_eq_true q3
         clear q3
         have HQ := Aside0.mk (And.intro hin hkm)
         clear hin hkm c1 c2
         go_upto_region 18 with fail
         have HMB := Aside0.mk (HM.out.below (below_drew (Below.refl wr.heap.size wr)))
         have HBB := Aside0.mk (below_drew1 HB.out)
         have hka := Kd.C_below HR.out.1 HBB.out
         have hkb := Kd.C_below HR.out.2 HBB.out
         obtain ⟨ax, rfl, t0, t1, t2⟩ := at_T79 hka (i : Int) (Int.natCast_nonneg i) (Int.ofNat_lt.2 n1)
         obtain ⟨ay, rfl, u0, u1, u2⟩ := at_T79 hkb (k : Int) (Int.natCast_nonneg k) (Int.ofNat_lt.2 n2)
         rw [rd_ev, Int.toNat_natCast] at t0 t1 t2 u0 u1 u2
         have hgx := rd_good HRo.out.ga (i : Int) ⟨Int.natCast_nonneg i, by rw [← HE1.out.1]; exact Int.ofNat_lt.2 n1⟩
         have hgy := rd_good HRo.out.gb (k : Int) ⟨Int.natCast_nonneg k, by rw [← HE1.out.2]; exact Int.ofNat_lt.2 n2⟩
         have HDI := Aside0.mk (dist_f hgx hgy)
         have HRU := Aside0.mk (show restI a b i k = mx 0 (farD (rd_T59 a i) (rd_T59 b k)) from rest_last a b i k (HQ.out.1.trans HE1.out.1) (HQ.out.2.trans HE1.out.2))
         have kq := HMB.out.cell0 i n1 (Nat.le_refl _)
         have kv := HMB.out.cell1 i k n1 (Nat.le_refl _) n2
         clear hka hkb hgx hgy
         obtain ⟨d, hd9⟩ : ∃ d, farD (rd_T59 a i) (rd_T59 b k) = d := ⟨_, rfl⟩
         rw [hd9] at HDI HRU
         clear hd9
         have HKQ := Aside0.mk (And.intro kq (And.intro kv (And.intro t0 (And.intro t1 (And.intro t2 (And.intro u0 (And.intro u1 u2)))))))
         clear kq kv t0 t1 t2 u0 u1 u2
         have HVK := Aside0.mk HV.out
         generalize V i k = v0 at HKQ
         simp only [ev] at HKQ HDI
         generalize (rd_T59 a i).f0 = x0 at HKQ HDI
         generalize (rd_T59 a i).f1 = x1 at HKQ HDI
         generalize (rd_T59 a i).f2 = x2 at HKQ HDI
         generalize (rd_T59 b k).f0 = y0 at HKQ HDI
         generalize (rd_T59 b k).f1 = y1 at HKQ HDI
         generalize (rd_T59 b k).f2 = y2 at HKQ HDI
         obtain ⟨Bi, hBi⟩ : ∃ Bi, Bi = B' i := ⟨_, rfl⟩
         rw [← hBi] at HKQ
         have HBI := Aside0.mk hBi
         clear hBi
         refine start_ (n := 18) (S := fun w' => w'.cell? ⟨g, i, none⟩ = some (.slice (some ⟨Bi, 0, none⟩) m m) ∧ w'.cell? ⟨Bi, k, none⟩ = some v0 ∧ w'.cell? (ax.add (i * 3)) = some (.int .i64 x0) ∧ w'.cell? ⟨(ax.add (i * 3)).block, (ax.add (i * 3)).off + 1, none⟩ = some (.int .i64 x1) ∧ w'.cell? ⟨(ax.add (i * 3)).block, (ax.add (i * 3)).off + 2, none⟩ = some (.int .i64 x2) ∧ w'.cell? (ay.add (k * 3)) = some (.int .i64 y0) ∧ w'.cell? ⟨(ay.add (k * 3)).block, (ay.add (k * 3)).off + 1, none⟩ = some (.int .i64 y1) ∧ w'.cell? ⟨(ay.add (k * 3)).block, (ay.add (k * 3)).off + 2, none⟩ = some (.int .i64 y2)) (ds := [17]) #[false, false, false, false, false, false, false, false, false, false, false, false, false, false, false, false, false, false] (by kernel_rfl) rfl rfl HKQ.out (fun hHeld => ?_)
         refine with_tabW rests18_tab rests18_bits (fun HT_ HW_ => ?_)
         generalize wr.drew = wB at HMB HBB HKQ hHeld ⊢
         refine take_ (i := 0) (N := some 97) (v := ?_) (a' := ?_) #[true, false, false, false, false, false, false, false, false, false, false, false, false, false, false, false, false, false] rfl rfl (take_ofW HT_.out HW_.out (by kernel_rfl)) (fun _ _ _ h => h) (Or.inl ⟨by rfl, ?_⟩) hHeld ?_ ?_
         rotate_left
         · rintro w' ⟨s0, s1, s2, s3, s4, s5, s6, s7⟩
           go_simp
           with_reducible rfl
         rotate_left
         · simp only [Act.put, List.setIfInBounds_toArray, List.set_cons_zero, List.set_cons_succ, i64_w, i32_w]
           rfl
         refine take_ (i := 1) (N := some 98) (v := ?_) (a' := ?_) #[true, true, false, false, false, false, false, false, false, false, false, false, false, false, false, false, false, false] rfl rfl (take_ofW HT_.out HW_.out (by kernel_rfl)) (fun _ _ _ h => h) (Or.inl ⟨by rfl, ?_⟩) hHeld ?_ ?_
         rotate_left
         · rintro w' ⟨s0, s1, s2, s3, s4, s5, s6, s7⟩
           go_simp
           with_reducible rfl
         rotate_left
         · simp only [Act.put, List.setIfInBounds_toArray, List.set_cons_zero, List.set_cons_succ, i64_w, i32_w]
           rfl
         refine take_ (i := 2) (N := some 99) (v := ?_) (a' := ?_) #[true, true, true, false, false, false, false, false, false, false, false, false, false, false, false, false, false, false] rfl rfl (take_ofW HT_.out HW_.out (by kernel_rfl)) (fun _ _ _ h => h) (Or.inl ⟨by rfl, ?_⟩) hHeld ?_ ?_
         rotate_left
         · rintro w' ⟨s0, s1, s2, s3, s4, s5, s6, s7⟩
           go_simp
           with_reducible rfl
         rotate_left
         · simp only [Act.put, List.setIfInBounds_toArray, List.set_cons_zero, List.set_cons_succ, i64_w, i32_w]
           rfl
         refine take_ (i := 3) (N := some 100) (v := ?_) (a' := ?_) #[true, true, true, true, false, false, false, false, false, false, false, false, false, false, false, false, false, false] rfl rfl (take_ofW HT_.out HW_.out (by kernel_rfl)) (fun _ _ _ h => h) (Or.inl ⟨by rfl, ?_⟩) hHeld ?_ ?_
         rotate_left
         · rintro w' ⟨s0, s1, s2, s3, s4, s5, s6, s7⟩
           go_simp
           with_reducible rfl
         rotate_left
         · simp only [Act.put, List.setIfInBounds_toArray, List.set_cons_zero, List.set_cons_succ, i64_w, i32_w]
           rfl
         refine take_ (i := 4) (N := some 101) (v := ?_) (a' := ?_) #[true, true, true, true, true, false, false, false, false, false, false, false, false, false, false, false, false, false] rfl rfl (take_ofW HT_.out HW_.out (by kernel_rfl)) (fun _ _ _ h => h) (Or.inl ⟨by rfl, ?_⟩) hHeld ?_ ?_
         rotate_left
         · rintro w' ⟨s0, s1, s2, s3, s4, s5, s6, s7⟩
           go_simp
           with_reducible rfl
         rotate_left
         · simp only [Act.put, List.setIfInBounds_toArray, List.set_cons_zero, List.set_cons_succ, i64_w, i32_w]
           rfl
         refine take_ (i := 5) (N := some 102) (v := ?_) (a' := ?_) #[true, true, true, true, true, true, false, false, false, false, false, false, false, false, false, false, false, false] rfl rfl (take_ofW HT_.out HW_.out (by kernel_rfl)) (fun _ _ _ h => h) (Or.inl ⟨by rfl, ?_⟩) hHeld ?_ ?_
         rotate_left
         · rintro w' ⟨s0, s1, s2, s3, s4, s5, s6, s7⟩
           go_simp
           with_reducible rfl
         rotate_left
         · simp only [Act.put, List.setIfInBounds_toArray, List.set_cons_zero, List.set_cons_succ, i64_w, i32_w]
           rfl
         refine take_ (i := 6) (N := some 103) (v := ?_) (a' := ?_) #[true, true, true, true, true, true, true, false, false, false, false, false, false, false, false, false, false, false] rfl rfl (take_ofW HT_.out HW_.out (by kernel_rfl)) (fun _ _ _ h => h) (Or.inl ⟨by rfl, ?_⟩) hHeld ?_ ?_
         rotate_left
         · rintro w' ⟨s0, s1, s2, s3, s4, s5, s6, s7⟩
           go_simp
           with_reducible rfl
         rotate_left
         · simp only [Act.put, List.setIfInBounds_toArray, List.set_cons_zero, List.set_cons_succ, i64_w, i32_w]
           rfl
         refine take_ (i := 7) (N := some 104) (v := ?_) (a' := ?_) #[true, true, true, true, true, true, true, true, false, false, false, false, false, false, false, false, false, false] rfl rfl (take_ofW HT_.out HW_.out (by kernel_rfl)) (fun _ _ _ h => h) (Or.inl ⟨by rfl, ?_⟩) hHeld ?_ ?_
         rotate_left
         · rintro w' ⟨s0, s1, s2, s3, s4, s5, s6, s7⟩
           go_simp
           with_reducible rfl
         rotate_left
         · simp only [Act.put, List.setIfInBounds_toArray, List.set_cons_zero, List.set_cons_succ, i64_w, i32_w]
           rfl
         refine take_ (i := 8) (N := some 105) (v := ?_) (a' := ?_) #[true, true, true, true, true, true, true, true, true, false, false, false, false, false, false, false, false, false] rfl rfl (take_ofW HT_.out HW_.out (by kernel_rfl)) (fun _ _ _ h => h) (Or.inl ⟨by rfl, ?_⟩) hHeld ?_ ?_
         rotate_left
         · rintro w' ⟨s0, s1, s2, s3, s4, s5, s6, s7⟩
           go_simp
           with_reducible rfl
         rotate_left
         · simp only [Act.put, List.setIfInBounds_toArray, List.set_cons_zero, List.set_cons_succ, i64_w, i32_w]
           rfl
         refine take_ (i := 9) (N := some 106) (v := ?_) (a' := ?_) #[true, true, true, true, true, true, true, true, true, true, false, false, false, false, false, false, false, false] rfl rfl (take_ofW HT_.out HW_.out (by kernel_rfl)) (fun _ _ _ h => h) (Or.inl ⟨by rfl, ?_⟩) hHeld ?_ ?_
         rotate_left
         · rintro w' ⟨s0, s1, s2, s3, s4, s5, s6, s7⟩
           go_simp
           with_reducible rfl
         rotate_left
         · simp only [Act.put, List.setIfInBounds_toArray, List.set_cons_zero, List.set_cons_succ, i64_w, i32_w]
           rfl
         refine take_ (i := 10) (N := some 107) (v := ?_) (a' := ?_) #[true, true, true, true, true, true, true, true, true, true, true, false, false, false, false, false, false, false] rfl rfl (take_ofW HT_.out HW_.out (by kernel_rfl)) (fun _ _ _ h => h) (Or.inl ⟨by rfl, ?_⟩) hHeld ?_ ?_
         rotate_left
         · rintro w' ⟨s0, s1, s2, s3, s4, s5, s6, s7⟩
           go_simp
           with_reducible rfl
         rotate_left
         · simp only [Act.put, List.setIfInBounds_toArray, List.set_cons_zero, List.set_cons_succ, i64_w, i32_w]
           rfl
         refine take_ (i := 11) (N := some 108) (v := ?_) (a' := ?_) #[true, true, true, true, true, true, true, true, true, true, true, true, false, false, false, false, false, false] rfl rfl (take_ofW HT_.out HW_.out (by kernel_rfl)) (fun _ _ _ h => h) (Or.inl ⟨by rfl, ?_⟩) hHeld ?_ ?_
         rotate_left
         · rintro w' ⟨s0, s1, s2, s3, s4, s5, s6, s7⟩
           go_simp
           with_reducible rfl
         rotate_left
         · simp only [Act.put, List.setIfInBounds_toArray, List.set_cons_zero, List.set_cons_succ, i64_w, i32_w]
           rfl
         refine take_ (i := 12) (N := some 109) (v := ?_) (a' := ?_) #[true, true, true, true, true, true, true, true, true, true, true, true, true, false, false, false, false, false] rfl rfl (take_ofW HT_.out HW_.out (by kernel_rfl)) (fun _ _ _ h => h) (Or.inl ⟨by rfl, ?_⟩) hHeld ?_ ?_
         rotate_left
         · rintro w' ⟨s0, s1, s2, s3, s4, s5, s6, s7⟩
           go_simp
           with_reducible rfl
         rotate_left
         · simp only [Act.put, List.setIfInBounds_toArray, List.set_cons_zero, List.set_cons_succ, i64_w, i32_w]
           rfl
         refine take_ (i := 13) (N := some 110) (v := ?_) (a' := ?_) #[true, true, true, true, true, true, true, true, true, true, true, true, true, true, false, false, false, false] rfl rfl (take_ofW HT_.out HW_.out (by kernel_rfl)) (fun _ _ _ h => h) (Or.inl ⟨by rfl, ?_⟩) hHeld ?_ ?_
         rotate_left
         · rintro w' ⟨s0, s1, s2, s3, s4, s5, s6, s7⟩
           go_simp
           with_reducible rfl
         rotate_left
         · simp only [Act.put, List.setIfInBounds_toArray, List.set_cons_zero, List.set_cons_succ, i64_w, i32_w]
           rfl
         refine one_ (i := 14) (N := some 111) #[true, true, true, true, true, true, true, true, true, true, true, true, true, true, true, false, false, false] rfl rfl (one_of HT_.out (by kernel_rfl)) (by decide) (fun K hK => ?_)
         refine goes_ Try.func49 (by kernel_rfl) rfl #[.agg #[.int .i64 x0, .int .i64 x1, .int .i64 x2], .agg #[.int .i64 y0, .int .i64 y1, .int .i64 y2]] (by rfl) rfl rfl (by (try simp only [List.map_toArray, List.map_cons, List.map_nil]); first | done | rfl) ?_
         refine (pianolaref07_distance.calls x0 x1 x2 y0 y1 y2 d wB HDI.out).mono ?_
         rintro e wC ⟨rfl, hb5⟩
         refine ⟨_, rfl, ?_⟩
         have HMC := Aside0.mk (HMB.out.below hb5)
         have HBC := Aside0.mk (below_then HBB.out HBB.out.size hb5)
         have HK8 := Aside0.mk (And.intro (pw_cell_below hb5 HKQ.out.1) (And.intro (pw_cell_below hb5 HKQ.out.2.1) (And.intro (pw_cell_below hb5 HKQ.out.2.2.1) (And.intro (pw_cell_below hb5 HKQ.out.2.2.2.1) (And.intro (pw_cell_below hb5 HKQ.out.2.2.2.2.1) (And.intro (pw_cell_below hb5 HKQ.out.2.2.2.2.2.1) (And.intro (pw_cell_below hb5 HKQ.out.2.2.2.2.2.2.1) (pw_cell_below hb5 HKQ.out.2.2.2.2.2.2.2))))))))
         clear hb5
         refine hK.out _ _ HK8.out (fun hHeld => ?_)
         clear hK K
         refine norm_ (a' := ?_) ?_ ?_
         rotate_left
         · show Act.put _ (some 111) _ = _
           simp only [Act.put, List.setIfInBounds_toArray, List.set_cons_zero, List.set_cons_succ, i64_w, i32_w]
           rfl
         refine take_ (i := 15) (N := some 112) (v := ?_) (a' := ?_) #[true, true, true, true, true, true, true, true, true, true, true, true, true, true, true, true, false, false] rfl rfl (take_ofW HT_.out HW_.out (by kernel_rfl)) (fun _ _ _ h => h) (Or.inl ⟨by rfl, ?_⟩) hHeld ?_ ?_
         rotate_left
         · rintro w' ⟨s0, s1, s2, s3, s4, s5, s6, s7⟩
           go_simp
           with_reducible rfl
         rotate_left
         · simp only [Act.put, List.setIfInBounds_toArray, List.set_cons_zero, List.set_cons_succ, i64_w, i32_w]
           rfl
         refine take_ (i := 16) (N := some 113) (v := ?_) (a' := ?_) #[true, true, true, true, true, true, true, true, true, true, true, true, true, true, true, true, true, false] rfl rfl (take_ofW HT_.out HW_.out (by kernel_rfl)) (fun _ _ _ h => h) (Or.inl ⟨by rfl, ?_⟩) hHeld ?_ ?_
         rotate_left
         · rintro w' ⟨s0, s1, s2, s3, s4, s5, s6, s7⟩
           go_simp
           with_reducible rfl
         rotate_left
         · simp only [Act.put, List.setIfInBounds_toArray, List.set_cons_zero, List.set_cons_succ, i64_w, i32_w]
           rfl
         have hfz := HMC.out.fz1 i k n1 (Nat.le_refl _)
         rw [← HBI.out] at hfz
         have hcq := hHeld.2.1
         refine last_ (i := 17) (N := none) #[true, true, true, true, true, true, true, true, true, true, true, true, true, true, true, true, true, true] rfl rfl (one_of HT_.out (by kernel_rfl)) (by decide) (fun K hK => ?_)
         refine store_step (by rfl) rfl (w1 := wC.setCell ⟨Bi, k, none⟩ (.int .i64 (mx 0 d))) ?hr ?_
         (case hr => first | (go_simp; done) | (go_simp; rfl))
         refine hK.out _ _ ?_
         clear hK K
         refine done_ (done_of HT_.out (by kernel_rfl)) ?_
         have HMD := Aside0.mk (HMC.out.put i k (.int .i64 (mx 0 d)) n1 (Nat.le_refl _) n2)
         rw [← HBI.out] at HMD
         have HBD := Aside0.mk (below_set (g := Bi) (j := k) (v := .int .i64 (mx 0 d)) HBC.out (by rw [HBI.out]; exact (HMC.out.rb i n1 (Nat.le_refl _)).1))
         clear hfz hcq hHeld HMC HBC HK8 HMB HBB HKQ HT_ HW_
         obtain ⟨vn, hvn⟩ : ∃ vn, mx 0 d = vn := ⟨_, rfl⟩
         rw [hvn] at HRU HMD HBD ⊢
         clear hvn
         generalize wC.setCell ⟨Bi, k, none⟩ (.int .i64 vn) = wD at HMD HBD ⊢
         go_wp2
         refine ⟨⟨k, _, congrArg _ (wrap_down k HMi.out.1), ⟨Nat.le_of_lt n2⟩, HMD, ⟨fun r k' h1 h2 h3 => ?_, fun k' h1 h2 => ?_⟩, HBD⟩, ?_⟩
         · rw [if_neg (fun e => by omega)]; exact HVK.out.1 r k' h1 h2 h3
         · by_cases e : k' = k
           · rw [if_pos ⟨rfl, e⟩, e, HRU.out]
           · rw [if_neg (fun h => e h.2)]; exact HVK.out.2 k' (by omega) h2
         · rw [wrap_down k HMi.out.1]; exact meas_down k

end
end Go.Proofs.Ytkocigldchiifaa.H

/- The reference's rests, as a list of lists. -/
namespace Go.Proofs.Ytkocigldchiifaa.H
open Go.RowKit Go.Proofs.YtkocigldchiifaaW.PrintWords Go.Proofs.YtkocigldchiifaaW.PrintLast Go.Proofs.YtkocigldchiifaaW.PrintMore
open Go.Shelf Go.Proofs.Ytkocigldchiifaa.QA
set_option linter.unusedVariables false
set_option linter.unusedSimpArgs false

/-- A table of numbers, as an own row of own rows. -/
theorem Mt.S {w : World} {base g n m : Nat} {B : Nat → Nat} {V : Nat → Nat → Value} (h : Mt w base g n m 63 3 (fun _ => True) B V) (hn : n ≤ 1000) (hm : m ≤ 1000) (xs : List (List Int)) (hx : xs.length = n) (hr : ∀ r x, xs[r]? = some x → x.length = m ∧ ∀ k, k < m → V r k = .int .i64 (x.getD k 0)) :
  Kd.S (Kd.slice 3 (Kd.int .i64)) 63 w base (fun _ => True) (.slice (some ⟨g, 0, none⟩) n n) xs := by
 obtain ⟨⟨T, h1, h2, h3⟩, h4, h5, h6, h7⟩ := h
 have hM : maxLen = 9223372036854775807 := rfl
 have hown : w.ownsRow base 63 1 (.slice (some ⟨g, 0, none⟩) n n) n T.toList := ⟨by simp [h1], .inr ⟨g, n, T, rfl, h5, h2, Nat.le_refl _, by omega, by simp [h1], by rw [Nat.mul_one, ← h1, ← Array.length_toList]; exact List.take_length⟩⟩
 obtain ⟨f, hf⟩ := Kd.reps_tag (d := Kd.slice 3 (Kd.int .i64)) (w := w) (base := base) (ok := fun k => True ∧ some k ≠ (Value.slice (some ⟨g, 0, none⟩) n n).ownBlock) (xs := xs) (inner := T.toList) (fun j k => j < n ∧ k = B j)
  (fun i j k hi hj => h7 i j hi.1 hj.1 trivial trivial (hi.2.symm.trans hj.2)) (fun j k hj => ⟨trivial, fun e => (h6 j hj.1 trivial).2 (by rw [← hj.2]; injection e)⟩)
  (by show _ = xs.length * 1; simp [h1, hx]) (fun j x hj => by
   have hjn : j < n := by rw [← hx]; exact (List.getElem?_eq_some_iff.1 hj).1
   obtain ⟨hlx, hvx⟩ := hr j x hj
   have ht := (h3 j hjn).1 trivial
   have hd : (T.toList.drop (j * 1)).take 1 = [.slice (some ⟨B j, 0, none⟩) m m] := by
    rw [Nat.mul_one, List.take_one, List.head?_drop, Array.getElem?_toList, ht]; rfl
   obtain ⟨T', e1, e2, e3⟩ := h4 j hjn trivial
   show (Kd.slice 3 (Kd.int .i64)).M w base _ x ((T.toList.drop (j * 1)).take 1)
   rw [hd]
   refine ⟨_, rfl, ?_⟩
   refine Kd.R_of_own (enc := Value.int .i64) ?_ (fun k hk => ⟨hjn, ?_⟩)
   · have hT : T'.toList = encs (Value.int .i64) x := by
      refine List.ext_getElem? fun k => ?_
      by_cases hk : k < m
      · rw [Array.getElem?_toList, e3 k hk, hvx k hk]
        unfold encs
        rw [List.getElem?_map, List.getD_eq_getElem?_getD, List.getElem?_eq_getElem (by omega)]
        rfl
      · rw [List.getElem?_eq_none (by simp [e1]; omega), List.getElem?_eq_none (by simp [encs]; omega)]
     rw [← hT]
     refine ⟨by simp [e1, hlx], .inr ⟨B j, m, T', by rw [hlx], (h6 j hjn trivial).1, e2, by omega, by omega, by simp [e1], ?_⟩⟩
     rw [Nat.mul_one, hlx, ← e1, ← Array.length_toList]; exact List.take_length
   · injection hk with hk
     exact hk.symm)
 exact ⟨f, fun _ _ => trivial, T.toList, by rw [List.length_zipIdx, hx]; exact hown, hf⟩
def vE (x : S79) : S59 := ⟨x.f0, x.f1, x.f2⟩
theorem ev_vE (l : List S79) : (l.map vE).map ev = l := by
 rw [List.map_map]
 exact List.map_id'' (fun x => rfl) l
theorem vE_ev (l : List S59) : (l.map ev).map vE = l := by
 rw [List.map_map]
 exact List.map_id'' (fun x => rfl) l
def restsM (a b : List S59) : List (List Int) := (List.range a.length).map fun (i : Nat) => (List.range b.length).map fun (k : Nat) => restI a b (i : Int) (k : Int)
def pianolaref07_rests.f (l0 l1 : List S79) : Option (List (List Int)) := if align_Check.f (l0.map vE) (l1.map vE) = some 0 then some (restsM (l0.map vE) (l1.map vE)) else none
theorem pianolaref07_rests.calls (A0 : Option Addr) (c0 : Nat) (l0 : List S79) (A1 : Option Addr) (c1 : Nat) (l1 : List S79) (r : List (List Int)) (w : World) (hr0 : Kd.C k79 w A0 l0.length l0) (hc0 : l0.length ≤ c0) (hr1 : Kd.C k79 w A1 l1.length l1) (hc1 : l1.length ≤ c1) (h : pianolaref07_rests.f l0 l1 = some r) :
  Calls Try.prog 51 #[.slice A0 l0.length c0, .slice A1 l1.length c1] w fun e w' => ∃ v0_ : Value, e = .returned v0_ ∧ Kd.S (Kd.slice 3 (Kd.int .i64)) 63 w' w.heap.size (fun _ => True) v0_ r ∧ Below w.heap.size w w' := by
 unfold pianolaref07_rests.f at h
 by_cases hc : align_Check.f (l0.map vE) (l1.map vE) = some 0
 · rw [if_pos hc] at h
   obtain rfl := Option.some.inj h
   have hR := rolls_of hc
   have e0 := hR.ha
   have e1 := hR.hb
   rw [List.length_map] at e0 e1
   refine (rests_calls' A0 c0 (l0.map vE) A1 c1 (l1.map vE) l0.length l1.length w (by rw [List.length_map]) (by rw [List.length_map]) (by rw [ev_vE]; exact hr0) hc0 (by rw [ev_vE]; exact hr1) hc1 hR).mono ?_
   rintro e w' ⟨g, B, V, rfl, hM, hV, hb⟩
   refine ⟨_, rfl, hM.S (by omega) (by omega) _ (by simp [restsM]) (fun r x hx => ?_), hb⟩
   unfold restsM at hx
   rw [List.getElem?_map] at hx
   obtain ⟨i, hi, rfl⟩ := Option.map_eq_some_iff.1 hx
   obtain ⟨hlt, hi⟩ := List.getElem?_eq_some_iff.1 hi
   rw [List.getElem_range] at hi
   subst hi
   rw [List.length_range, List.length_map] at hlt
   refine ⟨by simp, fun k hk => ?_⟩
   rw [hV r k hlt hk, List.getD_eq_getElem?_getD, List.getElem?_map, List.getElem?_range (by rw [List.length_map]; exact hk)]
   rfl
 · rw [if_neg hc] at h
   cases h

end Go.Proofs.Ytkocigldchiifaa.H
