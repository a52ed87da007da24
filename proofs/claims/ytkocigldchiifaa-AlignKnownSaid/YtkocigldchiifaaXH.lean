/- Texts T4 of this chapter, one behind the other. -/
import Derived.Maps.AppendAt
import Derived.Test.YtkocigldchiifaaXG

/- Rows of events of one's own: appended to, stored into. -/
namespace Go.Proofs.Ytkocigldchiifaa.H
open Go.RowKit Go.Proofs.YtkocigldchiifaaW.PrintWords Go.Proofs.YtkocigldchiifaaW.PrintLast Go.Proofs.YtkocigldchiifaaW.PrintMore
open Go.Shelf Go.Proofs.Ytkocigldchiifaa.QA
set_option linter.unusedVariables false
set_option linter.unusedSimpArgs false

def cellsE (xs : List S59) : List Value := xs.flatMap fun x => [.int .i64 x.f0, .int .i64 x.f1, .int .i64 x.f2]
theorem cellsE_len (xs : List S59) : (cellsE xs).length = xs.length * 3 := by
 induction xs with
 | nil => rfl
 | cons x xs ih => simp [cellsE] at ih ⊢; omega
theorem cellsE_append (xs ys : List S59) : cellsE (xs ++ ys) = cellsE xs ++ cellsE ys := by simp [cellsE]
theorem cellsE_one (xs : List S59) : ∀ u ∈ cellsE xs, u.oneCell' = true := by
 intro u hu
 obtain ⟨x, _, hx⟩ := List.mem_flatMap.1 hu
 simp only [List.mem_cons, List.not_mem_nil, or_false] at hx
 rcases hx with rfl | rfl | rfl <;> rfl
/-- An own row of events. -/
def OwnE (W : World) (base : Nat) (v : Value) (xs : List S59) : Prop := W.ownsRow base 59 3 v xs.length (cellsE xs)
theorem reps_E (w : World) (base : Nat) (ok : Nat → Prop) (xs : List S59) : Reps (k59.M w base ok) 3 xs (cellsE xs) := by
 have h : ∀ (ys zs : List S59), Reps (k59.M w base ok) 3 ys (cellsE ys) → Reps (k59.M w base ok) 3 (ys ++ zs) (cellsE (ys ++ zs)) := fun ys zs => by
  induction zs generalizing ys with
  | nil => intro h; simpa using h
  | cons z zs ih =>
   intro h
   have := ih (ys ++ [z]) (by
    have h2 := h.snoc (p := z) (c := [.int .i64 z.f0, .int .i64 z.f1, .int .i64 z.f2]) (k59_mkM w base ok z) rfl
    simpa [cellsE] using h2)
   simpa using this
 simpa using h [] xs (Reps.none _ _)
theorem OwnE.R {W : World} {base : Nat} {v : Value} {xs : List S59} (h : OwnE W base v xs) : Kd.R k59 59 W base (fun _ => True) v xs := ⟨fun _ _ => trivial, cellsE xs, h, reps_E _ _ _ xs⟩
theorem OwnE.reads {W : World} {base : Nat} {v : Value} {xs : List S59} (h : OwnE W base v xs) : ∃ A c, v = .slice A xs.length c ∧ xs.length ≤ c ∧ Kd.C k59 W A xs.length xs := Kd.R_reads h.R
theorem OwnE.below {W W' : World} {base : Nat} {v : Value} {xs : List S59} (h : OwnE W base v xs) (hb : Below W.heap.size W W') : OwnE W' base v xs := by
 obtain ⟨h1, h2⟩ := h
 refine ⟨h1, ?_⟩
 rcases h2 with h2 | ⟨g, cap, cur, h3, h4, h5, h6⟩
 · exact .inl h2
 · exact .inr ⟨g, cap, cur, h3, h4, (hb.block g (Array.getElem?_eq_some_iff.1 h5).1).trans h5, h6⟩
/-- Events are appended. -/
theorem wpList_append_E {ops : Array Oper} {rest : List Oper} {o : Oper} {a : Act} {Q : Exit → Act → World → Prop} {W : World} (hgd : o.guard = none) (s x : Operand)
  (ho : o.op = .call { callee := .builtin .append, args := #[s, x], argTypes := #[23, 23] }) (base : Nat) (v : Value) (xs ys : List S59) (hs : a.eval s = v) (hv : OwnE W base v xs) (ad : Addr) (m c : Nat) (hx : a.eval x = .slice (some ad) m c) (hm : m = ys.length)
  (hc : ∀ j u, (cellsE ys)[j]? = some u → W.cell? (ad.add j) = some u) (hl : xs.length + m ≤ 1000000) (hb : base ≤ W.heap.size)
  (h : ∀ v' w', OwnE w' base v' (xs ++ ys) → Below base W w' → W.grownBy w' v.ownBlock → wpList Try.prog ops Q rest (a.put o.dst v') w') : wpList Try.prog ops Q (o :: rest) a W := by
 obtain ⟨i0, hi, hz0, hz1, hz2⟩ := info_parts info59
 have hM : maxLen = 9223372036854775807 := rfl
 refine wpList_append_own_at _ hgd s x 23 ho base 59 i0 (.agg #[(.int .i64 0), (.int .i64 0), (.int .i64 0)]) 3 24 Try.underlying23 hi hz0 hz1 hz2 rfl (by decide) v xs.length (cellsE xs) hs hv ad m c (cellsE ys) hx (by rw [cellsE_len, hm]) hc (cellsE_one ys) (by omega) (by omega) hb ?_
 intro v' w' h1 h2 h3 h4
 refine h v' w' ?_ ((Below.refl _ _).grown h2 hb (fun j ej => own_base hv j ej)) h2
 unfold OwnE
 rw [cellsE_append, List.length_append, ← hm]
 exact h1

end Go.Proofs.Ytkocigldchiifaa.H
