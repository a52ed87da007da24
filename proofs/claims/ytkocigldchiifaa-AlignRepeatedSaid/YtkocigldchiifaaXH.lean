/- Texts T4, T7, P7, T6 of this chapter, one behind the other. -/
import Derived.Maps.AppendAt
import Derived.Test.YtkocigldchiifaaXB
import Derived.Test.YtkocigldchiifaaXF
import Derived.Test.YtkocigldchiifaaXG

/- Rows of events of one's own: appended to, stored into. -/
namespace Go.Proofs.Ytkocigldchiifaa.H
open Go.RowKit Go.Proofs.YtkocigldchiifaaW.PrintWords Go.Proofs.YtkocigldchiifaaW.PrintLast Go.Proofs.YtkocigldchiifaaW.PrintMore
open Go.Shelf Go.Proofs.Ytkocigldchiifaa.QA
set_option linter.unusedVariables false
set_option linter.unusedSimpArgs false

def cellsE (xs : List S59) : List Value := xs.flatMap fun x => [.int .i64 x.f0, .int .i64 x.f1, .int .i64 x.f2]
theorem cellsE_len (xs : List S59) : (cellsE xs).length = xs.length * 3 := by
 induction xs with
 | nil => rfl
 | cons x xs ih => simp [cellsE] at ih ⊢; omega
theorem cellsE_append (xs ys : List S59) : cellsE (xs ++ ys) = cellsE xs ++ cellsE ys := by simp [cellsE]
theorem cellsE_one (xs : List S59) : ∀ u ∈ cellsE xs, u.oneCell' = true := by
 intro u hu
 obtain ⟨x, _, hx⟩ := List.mem_flatMap.1 hu
 simp only [List.mem_cons, List.not_mem_nil, or_false] at hx
 rcases hx with rfl | rfl | rfl <;> rfl
theorem cellsE_get (xs : List S59) (i : Nat) (x : S59) (h : xs[i]? = some x) : (cellsE xs)[3 * i]? = some (.int .i64 x.f0) ∧ (cellsE xs)[3 * i + 1]? = some (.int .i64 x.f1) ∧ (cellsE xs)[3 * i + 2]? = some (.int .i64 x.f2) := by
 induction xs generalizing i with
 | nil => simp at h
 | cons y xs ih =>
  have e : cellsE (y :: xs) = .int .i64 y.f0 :: .int .i64 y.f1 :: .int .i64 y.f2 :: cellsE xs := by simp [cellsE]
  rw [e]
  cases i with
  | zero => simp at h; subst h; simp
  | succ i =>
   have := ih i (by simpa using h)
   rw [show 3 * (i + 1) = 3 * i + 1 + 1 + 1 by omega]
   simpa using this
/-- A list of events that is read: its cells lie one behind the other. -/
theorem C_cells {w : World} {ad : Addr} {n : Nat} {l : List S59} (h : Kd.C k59 w (some ad) n l) (hn : n = l.length) : ∀ j u, (cellsE l)[j]? = some u → w.cell? (ad.add j) = some u := by
 intro j u hj
 have hlt := (List.getElem?_eq_some_iff.1 hj).1
 rw [cellsE_len] at hlt
 obtain ⟨ad', c, e, _, hK, hc0⟩ := Kd.C_get h z59 ((j / 3 : Nat) : Int) (by omega) (by omega)
 cases e
 have hc : ∀ i u, c[i]? = some u → w.cell? (ad.add ((((j / 3 : Nat)) : Int).toNat * 3 + i)) = some u := hc0
 rw [Int.toNat_natCast] at hc
 have hx : l[j / 3]? = some (l[j / 3]'(by omega)) := List.getElem?_eq_getElem (by omega)
 obtain rfl := k59_open hK
 have hd : l.getD (((j / 3 : Nat) : Int)).toNat z59 = l[j / 3]'(by omega) := by rw [Int.toNat_natCast, List.getD_eq_getElem?_getD, hx]; rfl
 obtain ⟨g0, g1, g2⟩ := cellsE_get l (j / 3) _ hx
 have h3 : j % 3 = 0 ∨ j % 3 = 1 ∨ j % 3 = 2 := by omega
 rcases h3 with h3 | h3 | h3
 · have e : j = 3 * (j / 3) := by omega
   rw [e, g0] at hj
   have := hc 0 _ rfl
   rw [hd, show j / 3 * 3 + 0 = j by omega] at this
   rw [this]; exact hj
 · have e : j = 3 * (j / 3) + 1 := by omega
   rw [e, g1] at hj
   have := hc 1 _ rfl
   rw [hd, show j / 3 * 3 + 1 = j by omega] at this
   rw [this]; exact hj
 · have e : j = 3 * (j / 3) + 2 := by omega
   rw [e, g2] at hj
   have := hc 2 _ rfl
   rw [hd, show j / 3 * 3 + 2 = j by omega] at this
   rw [this]; exact hj
/-- An own row of events. -/
def OwnE (W : World) (base : Nat) (v : Value) (xs : List S59) : Prop := W.ownsRow base 59 3 v xs.length (cellsE xs)
theorem reps_E (w : World) (base : Nat) (ok : Nat → Prop) (xs : List S59) : Reps (k59.M w base ok) 3 xs (cellsE xs) := by
 have h : ∀ (ys zs : List S59), Reps (k59.M w base ok) 3 ys (cellsE ys) → Reps (k59.M w base ok) 3 (ys ++ zs) (cellsE (ys ++ zs)) := fun ys zs => by
  induction zs generalizing ys with
  | nil => intro h; simpa using h
  | cons z zs ih =>
   intro h
   have := ih (ys ++ [z]) (by
    have h2 := h.snoc (p := z) (c := [.int .i64 z.f0, .int .i64 z.f1, .int .i64 z.f2]) (k59_mkM w base ok z) rfl
    simpa [cellsE] using h2)
   simpa using this
 simpa using h [] xs (Reps.none _ _)
theorem OwnE.R {W : World} {base : Nat} {v : Value} {xs : List S59} (h : OwnE W base v xs) : Kd.R k59 59 W base (fun _ => True) v xs := ⟨fun _ _ => trivial, cellsE xs, h, reps_E _ _ _ xs⟩
theorem OwnE.reads {W : World} {base : Nat} {v : Value} {xs : List S59} (h : OwnE W base v xs) : ∃ A c, v = .slice A xs.length c ∧ xs.length ≤ c ∧ Kd.C k59 W A xs.length xs := Kd.R_reads h.R
theorem OwnE.below {W W' : World} {base : Nat} {v : Value} {xs : List S59} (h : OwnE W base v xs) (hb : Below W.heap.size W W') : OwnE W' base v xs := by
 obtain ⟨h1, h2⟩ := h
 refine ⟨h1, ?_⟩
 rcases h2 with h2 | ⟨g, cap, cur, h3, h4, h5, h6⟩
 · exact .inl h2
 · exact .inr ⟨g, cap, cur, h3, h4, (hb.block g (Array.getElem?_eq_some_iff.1 h5).1).trans h5, h6⟩
/-- An empty one. -/
theorem OwnE.empty (W : World) (base : Nat) (hb : base ≤ W.heap.size) : OwnE (W.alloc (.cells #[] 59)) base (.slice (some ⟨W.heap.size, 0, none⟩) 0 0) [] :=
 ⟨rfl, .inr ⟨W.heap.size, 0, #[], rfl, hb, blk_new W _, Nat.le_refl _, by simp, rfl, rfl⟩⟩
/-- Events are appended. -/
theorem wpList_append_E {ops : Array Oper} {rest : List Oper} {o : Oper} {a : Act} {Q : Exit → Act → World → Prop} {W : World} (hgd : o.guard = none) (s x : Operand)
  (ho : o.op = .call { callee := .builtin .append, args := #[s, x], argTypes := #[23, 23] }) (base : Nat) (v : Value) (xs ys : List S59) (hs : a.eval s = v) (hv : OwnE W base v xs) (ad : Addr) (m c : Nat) (hx : a.eval x = .slice (some ad) m c) (hm : m = ys.length)
  (hc : ∀ j u, (cellsE ys)[j]? = some u → W.cell? (ad.add j) = some u) (hl : xs.length + m ≤ 1000000) (hb : base ≤ W.heap.size)
  (h : ∀ v' w', OwnE w' base v' (xs ++ ys) → Below base W w' → W.grownBy w' v.ownBlock → wpList Try.prog ops Q rest (a.put o.dst v') w') : wpList Try.prog ops Q (o :: rest) a W := by
 obtain ⟨i0, hi, hz0, hz1, hz2⟩ := info_parts info59
 have hM : maxLen = 9223372036854775807 := rfl
 refine wpList_append_own_at _ hgd s x 23 ho base 59 i0 (.agg #[(.int .i64 0), (.int .i64 0), (.int .i64 0)]) 3 24 Try.underlying23 hi hz0 hz1 hz2 rfl (by decide) v xs.length (cellsE xs) hs hv ad m c (cellsE ys) hx (by rw [cellsE_len, hm]) hc (cellsE_one ys) (by omega) (by omega) hb ?_
 intro v' w' h1 h2 h3 h4
 refine h v' w' ?_ ((Below.refl _ _).grown h2 hb (fun j ej => own_base hv j ej)) h2
 unfold OwnE
 rw [cellsE_append, List.length_append, ← hm]
 exact h1

end Go.Proofs.Ytkocigldchiifaa.H

/- A slice from an index on, at rolls. -/
namespace Go.Proofs.Ytkocigldchiifaa.H
open Go.RowKit Go.Proofs.YtkocigldchiifaaW.PrintWords Go.Proofs.YtkocigldchiifaaW.PrintLast Go.Proofs.YtkocigldchiifaaW.PrintMore
open Go.Shelf Go.Proofs.Ytkocigldchiifaa.QA
set_option linter.unusedVariables false
set_option linter.unusedSimpArgs false

theorem elem23 : Try.prog.elem 23 = 59 := by kernel_rfl
theorem run_slice_from (w : World) (ad : Addr) (n c k : Nat) (h1 : k ≤ n) (h2 : n ≤ c) : (Instr.sliceAt 23 (.slice (some ad) n c) (some (.int .i64 (k : Int))) none none).run Try.prog w = .ok (.slice (some (if c = k then ad else ad.add (k * 3))) (n - k) (c - k)) w := by
 obtain ⟨i0, hi, hz0, hz1, hz2⟩ := info_parts info59
 have hb := run_sliceBound (P := Try.prog) (w := w) .i64 (k : Int) n .sliceB (by omega) (by omega)
 rw [run_sliceAt_slice w 23 _ _ _ _ (by rw [elem23]; exact Try.underlying23)]
 simp [Instr.slice, Instr.sliceBounds, run_underlying Try.underlying23, hb, sizeOf, typeInfo, hi, hz1]
 split <;> rfl
theorem wpList_slice_from {ops : Array Oper} {rest : List Oper} {o : Oper} {a : Act} {Q : Exit → Act → World → Prop} {W : World} (hgd : o.guard = none) (x lo : Operand) (ho : o.op = .slice 23 x (some lo) none none) (ad : Addr) (n c k : Nat)
  (hx : a.eval x = .slice (some ad) n c) (hlo : a.eval lo = .int .i64 (k : Int)) (h1 : k ≤ n) (h2 : n ≤ c) (ad3 : Addr) (h3 : (if c = k then ad else ad.add (k * 3)) = ad3) (h : wpList Try.prog ops Q rest (a.put o.dst (.slice (some ad3) (n - k) (c - k))) W) : wpList Try.prog ops Q (o :: rest) a W := by
 subst h3
 refine wpList_plain hgd fun K hK => ?_
 unfold Oper.wp execOp
 simp only [ho, hx, hlo, Option.map_some, Option.map_none, run_slice_from W ad n c k h1 h2, Sem.run_bind, Sem.run_pure, Result.andThen_ok]
 exact hK _ _ h

end Go.Proofs.Ytkocigldchiifaa.H

/- An event that is repeated right behind itself leaves the gap as it is. -/
namespace Go.Proofs.Ytkocigldchiifaa.H
open Go.RowKit Go.Proofs.YtkocigldchiifaaW.PrintWords Go.Proofs.YtkocigldchiifaaW.PrintLast Go.Proofs.YtkocigldchiifaaW.PrintMore
open Go.Shelf Go.Proofs.Ytkocigldchiifaa.QA
set_option linter.unusedVariables false
set_option linter.unusedSimpArgs false

/-- Event k twice. -/
def dup (a : List S59) (k : Nat) : List S59 := a.take (k + 1) ++ a.drop k
def phi (k : Nat) (i : Int) : Int := if i ≤ k then i else i - 1
theorem dup_len (a : List S59) (k : Nat) (hk : k < a.length) : (dup a k).length = a.length + 1 := by
 unfold dup
 rw [List.length_append, List.length_take, List.length_drop]
 omega
theorem rd_dup (a : List S59) (k : Nat) (hk : k < a.length) (i : Int) (hi : 0 ≤ i ∧ i < a.length + 1) : rd_T59 (dup a k) i = rd_T59 a (phi k i) := by
 obtain ⟨m, rfl⟩ : ∃ m : Nat, i = m := ⟨i.toNat, by omega⟩
 unfold dup rd_T59 phi
 rw [Int.toNat_natCast, List.getD_eq_getElem?_getD, List.getD_eq_getElem?_getD]
 congr 1
 by_cases h : m ≤ k
 · rw [if_pos (by omega), List.getElem?_append_left (by rw [List.length_take]; omega), List.getElem?_take_of_lt (by omega), Int.toNat_natCast]
 · rw [if_neg (by omega), List.getElem?_append_right (by rw [List.length_take]; omega), List.getElem?_drop, List.length_take]
   congr 1
   omega
theorem dist_dup {a b : List S59} {k : Nat} (hk : k < a.length) {i j : Int} (hi : 0 ≤ i ∧ i < a.length + 1) : dist (dup a k) b i j = dist a b (phi k i) j := by
 unfold dist
 rw [rd_dup a k hk i hi]
theorem has_dup {a b : List S59} {k : Nat} (hk : k < a.length) {i j : Int} : hasP (dup a k) b i j = true ↔ (0 ≤ i ∧ i < a.length + 1) ∧ (0 ≤ j ∧ j < b.length) := by
 rw [hasP_iff, dup_len a k hk]
 constructor <;> (rintro ⟨h1, h2⟩; exact ⟨⟨by omega, by omega⟩, h2⟩)
theorem way_undup {a b : List S59} {h : Int} {k : Nat} (hk : k < a.length) {i j : Int} (hw : Way (dup a k) b h i j) : Way a b h (phi k i) j := by
 induction hw with
 | last i j e1 e2 hp hd =>
  obtain ⟨h1, h2⟩ := (has_dup hk).1 hp
  rw [dist_dup hk h1] at hd
  rw [dup_len a k hk] at e1
  have e : phi k i = (a.length : Int) - 1 := by unfold phi; split <;> omega
  exact .last _ j e e2 ((hasP_iff a b _ _).2 ⟨by rw [e]; omega, h2⟩) hd
 | step i j q hp hd hq hw ih =>
  obtain ⟨h1, h2⟩ := (has_dup hk).1 hp
  rw [dist_dup hk h1] at hd
  obtain ⟨hh, hc⟩ := moves_mem hq
  have hp' : hasP a b (phi k i) j = true := (hasP_iff a b _ _).2 ⟨by unfold phi; split <;> omega, h2⟩
  have hih := ih.has.1
  have hph : phi k (i + 1) = phi k i + 1 ∨ phi k (i + 1) = phi k i := by unfold phi; split <;> split <;> omega
  rcases hc with e | e | e
  · rw [e] at ih hih
    simp only at ih hih
    rcases hph with e2 | e2
    · rw [e2] at ih hih
      exact .step _ j ⟨phi k i + 1, j + 1⟩ hp' hd (mem_moves.2 ⟨hih, by simp⟩) ih
    · rw [e2] at ih hih
      exact .step _ j ⟨phi k i, j + 1⟩ hp' hd (mem_moves.2 ⟨hih, by simp⟩) ih
  · rw [e] at ih hih
    simp only at ih hih
    rcases hph with e2 | e2
    · rw [e2] at ih hih
      exact .step _ j ⟨phi k i + 1, j⟩ hp' hd (mem_moves.2 ⟨hih, by simp⟩) ih
    · rw [e2] at ih
      exact ih
  · rw [e] at ih hih
    exact .step _ j ⟨phi k i, j + 1⟩ hp' hd (mem_moves.2 ⟨hih, by simp⟩) ih
theorem way_dup {a b : List S59} {h : Int} {k : Nat} (hk : k < a.length) {i j : Int} (hw : Way a b h i j) : ∀ i' : Int, 0 ≤ i' → i' < a.length + 1 → phi k i' = i → Way (dup a k) b h i' j := by
 have mk : ∀ {i i' j : Int}, hasP a b i j = true → dist a b i j ≤ h → 0 ≤ i' → i' < a.length + 1 → phi k i' = i → hasP (dup a k) b i' j = true ∧ dist (dup a k) b i' j ≤ h := fun hp hd h1 h2 h3 => by
  obtain ⟨_, h5⟩ := (hasP_iff a b _ _).1 hp
  exact ⟨(has_dup hk).2 ⟨⟨h1, h2⟩, h5⟩, by rw [dist_dup hk ⟨h1, h2⟩, h3]; exact hd⟩
 -- the first copy goes to the second one
 have two : ∀ {j : Int}, hasP a b k j = true → dist a b k j ≤ h → Way (dup a k) b h (k + 1) j → Way (dup a k) b h k j := fun {j} hp hd hw => by
  obtain ⟨h1, h2⟩ := mk (i' := (k : Int)) hp hd (by omega) (by omega) (by unfold phi; split <;> omega)
  exact .step _ j ⟨(k : Int) + 1, j⟩ h1 h2 (mem_moves.2 ⟨hw.has.1, by simp⟩) hw
 induction hw with
 | last i j e1 e2 hp hd =>
  have fin : Way (dup a k) b h a.length j := by
   obtain ⟨h1, h2⟩ := mk (i' := (a.length : Int)) hp hd (by omega) (by omega) (by unfold phi; split <;> omega)
   exact .last _ j (by rw [dup_len a k hk]; omega) e2 h1 h2
  intro i' h1 h2 h3
  by_cases hi : i' = a.length
  · rw [hi]; exact fin
  · have e : i' = k ∧ i = k ∧ (k : Int) + 1 = a.length := by unfold phi at h3; split at h3 <;> omega
    rw [e.2.1] at hp hd
    rw [e.1]
    exact two hp hd (by rw [e.2.2]; exact fin)
 | step i j q hp hd hq hw ih =>
  obtain ⟨hh, hc⟩ := moves_mem hq
  obtain ⟨g1, g2⟩ := (hasP_iff a b _ _).1 hp
  -- from any copy that is not the first of two
  have one : ∀ i' : Int, 0 ≤ i' → i' < a.length + 1 → phi k i' = i → i' ≠ k → Way (dup a k) b h i' j := by
   intro i' h1 h2 h3 h4
   obtain ⟨k1, k2⟩ := mk hp hd h1 h2 h3
   have hnext : phi k (i' + 1) = i + 1 := by unfold phi at h3 ⊢; split at h3 <;> split <;> omega
   rcases hc with e | e | e
   · rw [e] at ih hh
     have hl := ((hasP_iff a b _ _).1 hh).1
     simp only at hl ih
     have hw2 := ih (i' + 1) (by omega) (by unfold phi at h3; split at h3 <;> omega) hnext
     exact .step _ j ⟨i' + 1, j + 1⟩ k1 k2 (mem_moves.2 ⟨hw2.has.1, by simp⟩) hw2
   · rw [e] at ih hh
     have hl := ((hasP_iff a b _ _).1 hh).1
     simp only at hl ih
     have hw2 := ih (i' + 1) (by omega) (by unfold phi at h3; split at h3 <;> omega) hnext
     exact .step _ j ⟨i' + 1, j⟩ k1 k2 (mem_moves.2 ⟨hw2.has.1, by simp⟩) hw2
   · rw [e] at ih
     simp only at ih
     have hw2 := ih i' h1 h2 h3
     exact .step _ j ⟨i', j + 1⟩ k1 k2 (mem_moves.2 ⟨hw2.has.1, by simp⟩) hw2
  intro i' h1 h2 h3
  by_cases hk' : i' = k
  · have hik : i = k := by rw [← h3, hk']; unfold phi; split <;> omega
    rw [hik] at hp hd
    rw [hk']
    exact two hp hd (one (k + 1) (by omega) (by omega) (by rw [hik]; unfold phi; split <;> omega) (by omega))
  · exact one i' h1 h2 h3 hk'
theorem gap_dup {a b : List S59} {k : Nat} (hk : k < a.length) (hR : Rolls a b) (hR' : Rolls (dup a k) b) : gapI (dup a k) b = gapI a b := eq_of_le fun n => by
 rw [gap_iff hR', gap_iff hR]
 constructor
 · intro hw
   have h1 := way_undup hk hw
   rw [show phi k 0 = 0 by unfold phi; split <;> omega] at h1
   exact h1
 · exact fun hw => way_dup hk hw 0 (by omega) (by omega) (by unfold phi; split <;> omega)
/-- Event k m times. -/
def rep (a : List S59) (k m : Nat) : List S59 := a.take k ++ List.replicate m (rd_T59 a k) ++ a.drop (k + 1)
theorem rep_one (a : List S59) (k : Nat) (hk : k < a.length) : rep a k 1 = a := by
 unfold rep
 have h : rd_T59 a k = a[k] := by unfold rd_T59; rw [Int.toNat_natCast, List.getD_eq_getElem?_getD, List.getElem?_eq_getElem hk]; rfl
 rw [h, List.append_assoc]
 show a.take k ++ a[k] :: a.drop (k + 1) = a
 rw [← List.drop_eq_getElem_cons hk, List.take_append_drop]
theorem rep_len (a : List S59) (k m : Nat) (hk : k < a.length) : (rep a k m).length = a.length - 1 + m := by
 unfold rep
 simp
 omega
theorem rep_mem (a : List S59) (k m : Nat) (hk : k < a.length) : ∀ x ∈ rep a k m, x ∈ a := by
 intro x hx
 unfold rep at hx
 rcases List.mem_append.1 hx with hx | hx
 · rcases List.mem_append.1 hx with hx | hx
   · exact List.mem_of_mem_take hx
   · rw [(List.mem_replicate.1 hx).2]
     unfold rd_T59
     rw [Int.toNat_natCast, List.getD_eq_getElem?_getD, List.getElem?_eq_getElem hk]
     exact List.getElem_mem _
 · exact List.mem_of_mem_drop hx
theorem rep_succ (a : List S59) (k m : Nat) (hk : k < a.length) : rep a k (m + 2) = dup (rep a k (m + 1)) k := by
 have hl : (a.take k).length = k := by rw [List.length_take]; omega
 have e1 : (rep a k (m + 1)).take (k + 1) = a.take k ++ [rd_T59 a k] := by
  unfold rep
  rw [List.append_assoc, List.take_append, hl, show k + 1 - k = 1 by omega, List.replicate_succ]
  have : (a.take k).take (k + 1) = a.take k := List.take_of_length_le (by omega)
  rw [this]
  simp
 have e2 : (rep a k (m + 1)).drop k = List.replicate (m + 1) (rd_T59 a k) ++ a.drop (k + 1) := by
  unfold rep
  rw [List.append_assoc, List.drop_append, hl, Nat.sub_self, List.drop_of_length_le (by omega)]
  simp
 unfold dup
 rw [e1, e2]
 unfold rep
 rw [show m + 2 = (m + 1) + 1 by omega, List.replicate_succ]
 simp
theorem rolls_rep {a b : List S59} (hR : Rolls a b) {k m : Nat} (hk : k < a.length) (h1 : 1 ≤ m) (hm : a.length + m ≤ 31) : Rolls (rep a k m) b :=
 ⟨by rw [rep_len a k m hk]; have := hR.ha; omega, hR.hb, fun x hx => hR.ga x (rep_mem a k m hk x hx), hR.gb⟩
theorem gap_rep {a b : List S59} (hR : Rolls a b) {k : Nat} (hk : k < a.length) : ∀ m : Nat, a.length + m + 1 ≤ 31 → gapI (rep a k (m + 1)) b = gapI a b := by
 intro m
 induction m with
 | zero => intro _; rw [rep_one a k hk]
 | succ m ih =>
  intro hm
  rw [rep_succ a k m hk, gap_dup (by rw [rep_len a k _ hk]; omega) (rolls_rep hR hk (by omega) (by omega)) (by rw [← rep_succ a k m hk]; exact rolls_rep hR hk (by omega) (by omega))]
  exact ih (by omega)

end Go.Proofs.Ytkocigldchiifaa.H

/- pianolalaw07.AlignRepeated. -/
namespace Go.Proofs.Ytkocigldchiifaa.H
open Go.RowKit Go.Proofs.YtkocigldchiifaaW.PrintWords Go.Proofs.YtkocigldchiifaaW.PrintLast Go.Proofs.YtkocigldchiifaaW.PrintMore
open Go.Shelf Go.Proofs.Ytkocigldchiifaa.QA
set_option linter.unusedVariables false
set_option linter.unusedSimpArgs false

theorem wrap_small (x : Int) (h0 : 0 ≤ x) (h1 : x ≤ 1000000) : wrap64 x = x := by unfold wrap64; omega
theorem cells_take {w : World} {ad : Addr} {n : Nat} {l : List S59} (h : Kd.C k59 w (some ad) n l) (hn : n = l.length) (k : Nat) : ∀ j u, (cellsE (l.take k))[j]? = some u → w.cell? (ad.add j) = some u := by
 intro j u hj
 refine C_cells h hn j u ?_
 have e : cellsE l = cellsE (l.take k) ++ cellsE (l.drop k) := by rw [← cellsE_append, List.take_append_drop]
 rw [e, List.getElem?_append_left (List.getElem?_eq_some_iff.1 hj).1]
 exact hj
theorem cells_drop {w : World} {ad : Addr} {n : Nat} {l : List S59} (h : Kd.C k59 w (some ad) n l) (hn : n = l.length) (k : Nat) (hk : k ≤ l.length) : ∀ j u, (cellsE (l.drop k))[j]? = some u → w.cell? ((ad.add (k * 3)).add j) = some u := by
 intro j u hj
 rw [Addr.add_add]
 refine C_cells h hn _ u ?_
 have e : cellsE l = cellsE (l.take k) ++ cellsE (l.drop k) := by rw [← cellsE_append, List.take_append_drop]
 have hl : (cellsE (l.take k)).length = k * 3 := by rw [cellsE_len, List.length_take]; omega
 rw [e, List.getElem?_append_right (by omega), hl, Nat.add_sub_cancel_left]
 exact hj
theorem cells_none {w : World} {l : List S59} (ad : Addr) (k : Nat) (hk : l.length ≤ k) : ∀ j u, (cellsE (l.drop k))[j]? = some u → w.cell? (ad.add j) = some u := by
 intro j u hj
 rw [List.drop_of_length_le hk] at hj
 simp [cellsE] at hj
set_option maxRecDepth 100000 in
set_option maxHeartbeats 2000000 in
theorem alignRepeated_calls (A0 : Option Addr) (c0 : Nat) (l0 : List S59) (A1 : Option Addr) (c1 : Nat) (l1 : List S59) (a2 a3 : Int) (w : World) (hC0 : Kd.C k111 w A0 l0.length l0) (hc0 : l0.length ≤ c0) (hb0 : ∀ x ∈ l0, Byte3 x) (hC1 : Kd.C k111 w A1 l1.length l1) (hc1 : l1.length ≤ c1) (hb1 : ∀ x ∈ l1, Byte3 x) (h2 : isByte a2) (h3 : isByte a3) :
  Calls Try.prog 6 #[.slice A0 l0.length c0, .slice A1 l1.length c1, .int .u8 a2, .int .u8 a3] w fun e w' => e = .returned (.bool true) ∧ Below w.heap.size w w' := by
  have hu59 := Try.underlying59
  have H0 := Aside0.mk hC0
  have H1 := Aside0.mk hC1
  have HA0 := Aside0.mk (And.intro hc0 hb0)
  have HA1 := Aside0.mk (And.intro hc1 hb1)
  have HB := Aside0.mk (Below.refl w.heap.size w)
  have hlen := made_len l0
  unfold isByte at h2 h3
  obtain ⟨j, hj⟩ : ∃ j : Nat, (j : Int) = a2 % ((madeF l0).length : Int) := ⟨(a2 % ((madeF l0).length : Int)).toNat, by have := Int.emod_nonneg a2 (b := ((madeF l0).length : Int)) (by omega); omega⟩
  have hjl : j < (madeF l0).length := by have := Int.emod_lt_of_pos a2 (b := ((madeF l0).length : Int)) (by omega); omega
  obtain ⟨t, ht⟩ : ∃ t : Nat, (t : Int) = a3 % 4 := ⟨(a3 % 4).toNat, by omega⟩
  have ht4 : t ≤ 3 := by omega
  have r01 := made_rolls hb0 hb1
  obtain ⟨o, ho⟩ : ∃ o, o = rep (madeF l0) j (t + 1) := ⟨_, rfl⟩
  have rob : Rolls o (madeF l1) := by rw [ho]; exact rolls_rep r01 hjl (by omega) (by omega)
  have hgo : gapI o (madeF l1) = gapI (madeF l0) (madeF l1) := by rw [ho]; exact gap_rep r01 hjl t (by omega)
  obtain ⟨x, hF⟩ : ∃ x : Int, (align_Gap.f (madeF l0) (madeF l1) = some (x, 0) ∧ align_Gap.f o (madeF l1) = some (x, 0) ∧ align_Gap.f (madeF l1) o = some (x, 0)) :=
   ⟨_, gap_f r01, by rw [gap_f rob, hgo], by rw [gap_f rob.symm, ← gap_symm rob, hgo]⟩
  have HF := Aside0.mk hF
  have HOE := Aside0.mk (show (madeF l0).take j ++ List.replicate (t + 1) (rd_T59 (madeF l0) j) ++ (madeF l0).drop (j + 1) = o from ho.symm)
  have e5 : IntKind.i64.wrap a2 = a2 := by rw [i64_w]; unfold wrap64; omega
  have e6 : IntKind.i64.wrap a3 = a3 := by rw [i64_w]; unfold wrap64; omega
  have e7 : a3.tmod 4 = (t : Int) := by rw [ht]; exact Int.tmod_eq_emod_of_nonneg h3.1
  have e8 : a2.tmod ((madeF l0).length : Int) = (j : Int) := by rw [hj]; exact Int.tmod_eq_emod_of_nonneg h2.1
  have e9 : (((madeF l0).length : Int) == 0) = false := beq_eq_false_iff_ne.mpr (by omega)
  have hne : madeF l0 ≠ [] := fun e => by rw [e] at hlen; simp at hlen
  have HJ := Aside0.mk (And.intro hjl (And.intro hne (And.intro hlen ht4)))
  have HJ2 := Aside0.mk (show (j : Int) + 1 ≤ (madeF l0).length by omega)
  have hj6 : j + 1 ≤ 6 := by omega
  have HE10 := Aside0.mk (wrap_small ((j : Int) + 1) (by omega) (by omega))
  clear hj6
  clear hC0 hc0 hb0 hC1 hc1 hb1 hF hj ht h2 h3 r01 rob hgo ho hlen hne ht4
  go_enter Try.func6, Try.ntmps6
  go_wp2_with fail
  refine (made_calls A0 c0 l0 _ H0.out HA0.out.1 HA0.out.2).mono ?_
  rintro e w1 ⟨v, rfl, hR, hb⟩
  have hbb := hb; clear hb
  have HB' := Aside0.mk (below_then HB.out HB.out.size hbb); clear HB; have HB := HB'; clear HB'
  have H0' := Aside0.mk (Kd.C_below H0.out hbb); clear H0; have H0 := H0'; clear H0'
  have H1' := Aside0.mk (Kd.C_below H1.out hbb); clear H1; have H1 := H1'; clear H1'
  clear hbb
  obtain ⟨Aa, ca, rfl, hca, hCa⟩ := Kd.R_reads hR
  clear hR
  have HCa := Aside0.mk hCa; clear hCa
  go_wp2_with fail
  refine (made_calls A1 c1 l1 _ H1.out HA1.out.1 HA1.out.2).mono ?_
  rintro e w2 ⟨v, rfl, hR, hb⟩
  have hbb := hb; clear hb
  have HB' := Aside0.mk (below_then HB.out HB.out.size hbb); clear HB; have HB := HB'; clear HB'
  have H0' := Aside0.mk (Kd.C_below H0.out hbb); clear H0; have H0 := H0'; clear H0'
  have H1' := Aside0.mk (Kd.C_below H1.out hbb); clear H1; have H1 := H1'; clear H1'
  have HCa' := Aside0.mk (Kd.C_below HCa.out hbb); clear HCa; have HCa := HCa'; clear HCa'
  clear hbb
  obtain ⟨Ab, cb, rfl, hcb, hCb⟩ := Kd.R_reads hR
  clear hR
  have HCb := Aside0.mk hCb; clear hCb
  have hAa : ∃ ad, Aa = some ad := by
   obtain ⟨ad, h, _⟩ := at_T59 HCa.out 0 (by omega) (by have := HJ.out.2.2.1; omega)
   exact ⟨ad, h⟩
  obtain ⟨ad, rfl⟩ := hAa
  have hjc : j ≤ ca := by omega
  go_wp2_with (at_builtin; refine Aside0.out ?_)
  refine ⟨?_⟩
  have hb3 := below_alloc (Below.refl w2.heap.size w2) (.cells #[] 59)
  refine wpList_append_E rfl _ _ rfl w2.heap.size (.slice (some ⟨w2.heap.size, 0, none⟩) 0 0) [] ((madeF l0).take j) rfl (OwnE.empty w2 _ (Nat.le_refl _)) ad j ca rfl (by rw [List.length_take]; omega) (cells_take (Kd.C_below HCa.out hb3) rfl j) (by have := HJ.out.2.2.1; simp; omega) hb3.size ?_
  intro v' w3 hO hb hg
  rw [List.nil_append] at hO
  have HO3 := Aside0.mk (And.intro hO (hb3.trans hb))
  clear hO hb hg hb3
  go_wp2
  go_loopw [12, 13] (fun s12 s13 wr => ∃ i : Nat, i ≤ t + 1 ∧ s13 = .int .i64 i ∧ Aside0 (OwnE wr w2.heap.size s12 ((madeF l0).take j ++ List.replicate i (rd_T59 (madeF l0) j))) ∧ Aside0 (Below w2.heap.size w2 wr)) (fun _ s13 _ => (t + 1) - (intOf s13).toNat)
  case atStart => exact ⟨0, by omega, rfl, ⟨by simpa using HO3.out.1⟩, ⟨HO3.out.2⟩⟩
  case round =>
   obtain ⟨i, hi, rfl, HO, HB6⟩ := hrel
   by_cases hlt : i ≤ t
   · have hd : decide ((i : Int) ≤ (t : Int)) = true := decide_eq_true (by omega)
     obtain ⟨ad2, had, x0, x1, x2⟩ := at_T59 (Kd.C_below HCa.out HB6.out) (j : Int) (by omega) (by omega)
     cases had
     rw [Int.toNat_natCast] at x0 x1 x2
     generalize hp : rd_T59 (madeF l0) (j : Int) = p at x0 x1 x2 HO
     have HP := Aside0.mk hp
     clear hp
     go_wp2_with (at_builtin; refine Aside0.out ?_)
     refine ⟨?_⟩
     have hb3 := below_alloc (Below.refl wr.heap.size wr) (.cells #[.int .i64 p.f0, .int .i64 p.f1, .int .i64 p.f2] 59)
     refine wpList_append_E rfl _ _ rfl w2.heap.size _ ((madeF l0).take j ++ List.replicate i p) [p] rfl (HO.out.below hb3) ⟨wr.heap.size, 0, none⟩ 1 1 rfl rfl (fun k u hu => by simpa using World.news_of_block (cs := #[.int .i64 p.f0, .int .i64 p.f1, .int .i64 p.f2]) (t := 59) (fr := (0, 0)) (heap_alloc_new wr (.cells #[.int .i64 p.f0, .int .i64 p.f1, .int .i64 p.f2] 59)) k u (by simpa [cellsE] using hu)) (by have := HJ.out; simp; omega) (Nat.le_trans HB6.out.size hb3.size) ?_
     intro v4 w4 hO4 hb4 hg4
     go_wp2
     have hs : (madeF l0).take j ++ List.replicate i p ++ [p] = (madeF l0).take j ++ List.replicate (i + 1) p := by rw [List.append_assoc, ← List.replicate_succ']
     rw [hs] at hO4
     have hb5 : Below w2.heap.size w2 w4 := (HB6.out.trans (hb3.mono HB6.out.size)).trans hb4
     clear e5 e6 e7 e8 e9 hd
     have hiw : wrap64 ((i : Int) + 1) = (i : Int) + 1 := wrap_small _ (Int.add_nonneg (Int.natCast_nonneg i) (by decide)) (by have := HJ.out.2.2.2; omega)
     rw [hiw]
     refine ⟨⟨i + 1, Nat.succ_le_succ hlt, rfl, ⟨hO4⟩, ⟨hb5⟩⟩, ?_⟩
     show t + 1 - ((i : Int) + 1).toNat < t + 1 - ((i : Int)).toNat
     omega
   · have hd : decide ((i : Int) ≤ (t : Int)) = false := decide_eq_false (fun h => hlt (Int.ofNat_le.1 h))
     obtain rfl : i = t + 1 := Nat.le_antisymm hi (Nat.lt_of_not_le hlt)
     have e11 := HJ2.out
     have e12 : (madeF l0).length ≤ ca := hca
     have e10 := HE10.out
     obtain ⟨ad3, had3⟩ : ∃ ad3 : Addr, (if ca = j + 1 then ad else ad.add ((j + 1) * 3)) = ad3 := ⟨_, rfl⟩
     have hs1 : j + 1 ≤ (madeF l0).length := HJ.out.1
     have HCE := Aside0.mk (show ∀ W : World, Kd.C k59 W (some ad) (madeF l0).length (madeF l0) → ∀ k u, (cellsE ((madeF l0).drop (j + 1)))[k]? = some u → W.cell? (ad3.add k) = some u from fun W hC k u hu => by
      by_cases hcc : ca = j + 1
      · rw [if_pos hcc] at had3
        exact cells_none ad3 (j + 1) (by rw [← hcc]; exact hca) k u hu
      · rw [if_neg hcc] at had3
        rw [← had3]
        exact cells_drop hC rfl (j + 1) hs1 k u hu)
     have HAD := Aside0.mk had3
     have HS1 := Aside0.mk (And.intro hs1 e12)
     clear e11 had3 hs1 e12 hjl hjc
     iterate 42 go_step
     refine wpList_slice_from rfl _ _ rfl ad (madeF l0).length ca (j + 1) rfl (by first | rfl | exact congrArg (Value.int .i64) HE10.out) HS1.out.1 HS1.out.2 ad3 HAD.out ?_
     go_wp2_with (at_builtin; refine Aside0.out ?_)
     refine ⟨?_⟩
     clear e5 e6 e7 e8 e9 e10 hd
     refine wpList_append_E rfl _ _ rfl w2.heap.size _ ((madeF l0).take j ++ List.replicate (t + 1) (rd_T59 (madeF l0) j)) ((madeF l0).drop (j + 1)) rfl HO.out ad3 ((madeF l0).length - (j + 1)) (ca - (j + 1)) rfl (by rw [List.length_drop]) (HCE.out _ (Kd.C_below HCa.out HB6.out)) (by have := HJ.out; simp; omega) HB6.out.size ?_
     intro v' w7 hO hb hg
     rw [HOE.out] at hO
     obtain ⟨Ao, co, rfl, hco, hCo⟩ := hO.reads
     have hb7 : Below w2.heap.size w2 w7 := HB6.out.trans hb
     have HB7 := Aside0.mk hb7
     have HCa' := Aside0.mk (Kd.C_below HCa.out hb7); clear HCa; have HCa := HCa'; clear HCa'
     have HCb' := Aside0.mk (Kd.C_below HCb.out hb7); clear HCb; have HCb := HCb'; clear HCb'
     have HCo := Aside0.mk hCo
     have HB' := Aside0.mk (below_then HB.out HB.out.size hb7); clear HB; have HB := HB'; clear HB'
     clear hO hb hg hb7 hCo
     go_wp2_with fail
     refine (align_Gap.calls (some ad) ca (madeF l0) Ab cb (madeF l1) x 0 _ HCa.out hca HCb.out hcb HF.out.1).mono ?_
     rintro e w8 ⟨rfl, hb⟩
     have hbb := hb; clear hb
     have HB' := Aside0.mk (below_then HB.out HB.out.size hbb); clear HB; have HB := HB'; clear HB'
     have HCa' := Aside0.mk (Kd.C_below HCa.out hbb); clear HCa; have HCa := HCa'; clear HCa'
     have HCb' := Aside0.mk (Kd.C_below HCb.out hbb); clear HCb; have HCb := HCb'; clear HCb'
     have HCo' := Aside0.mk (Kd.C_below HCo.out hbb); clear HCo; have HCo := HCo'; clear HCo'
     clear hbb
     go_wp2_with fail
     refine (align_Gap.calls Ao co o Ab cb (madeF l1) x 0 _ HCo.out hco HCb.out hcb HF.out.2.1).mono ?_
     rintro e w9 ⟨rfl, hb⟩
     have hbb := hb; clear hb
     have HB' := Aside0.mk (below_then HB.out HB.out.size hbb); clear HB; have HB := HB'; clear HB'
     have HCa' := Aside0.mk (Kd.C_below HCa.out hbb); clear HCa; have HCa := HCa'; clear HCa'
     have HCb' := Aside0.mk (Kd.C_below HCb.out hbb); clear HCb; have HCb := HCb'; clear HCb'
     have HCo' := Aside0.mk (Kd.C_below HCo.out hbb); clear HCo; have HCo := HCo'; clear HCo'
     clear hbb
     go_wp2_with fail
     refine (align_Gap.calls Ab cb (madeF l1) Ao co o x 0 _ HCb.out hcb HCo.out hco HF.out.2.2).mono ?_
     rintro e w10 ⟨rfl, hb⟩
     have hbb := hb; clear hb
     have HB' := Aside0.mk (below_then HB.out HB.out.size hbb); clear HB; have HB := HB'; clear HB'
     have HCa' := Aside0.mk (Kd.C_below HCa.out hbb); clear HCa; have HCa := HCa'; clear HCa'
     have HCb' := Aside0.mk (Kd.C_below HCb.out hbb); clear HCb; have HCb := HCb'; clear HCb'
     have HCo' := Aside0.mk (Kd.C_below HCo.out hbb); clear HCo; have HCo := HCo'; clear HCo'
     clear hbb
     go_wp2_with fail
     refine (works_calls _).mono ?_
     rintro e w11 ⟨rfl, hb⟩
     have hbb := hb; clear hb
     have HB' := Aside0.mk (below_then HB.out HB.out.size hbb); clear HB; have HB := HB'; clear HB'
     have HCa' := Aside0.mk (Kd.C_below HCa.out hbb); clear HCa; have HCa := HCa'; clear HCa'
     have HCb' := Aside0.mk (Kd.C_below HCb.out hbb); clear HCb; have HCb := HCb'; clear HCb'
     have HCo' := Aside0.mk (Kd.C_below HCo.out hbb); clear HCo; have HCo := HCo'; clear HCo'
     clear hbb
     go_wp2
     go_ret
     exact ⟨rfl, HB.out⟩

end Go.Proofs.Ytkocigldchiifaa.H
