/- Words on regions that draw their order. -/
import Derived.Test.YtkocigldchiifaaQA0
namespace Go.Proofs.Ytkocigldchiifaa.H
open Go.RowKit Go.Proofs.YtkocigldchiifaaW.PrintWords Go.Proofs.YtkocigldchiifaaW.PrintLast Go.Proofs.YtkocigldchiifaaW.PrintMore
set_option linter.unusedVariables false
set_option linter.unusedSimpArgs false

section
variable {P : Program} {ops : Array Oper} {o : Oper} {a : Act} {Q : Exit → Act → World → Prop} {Kc : Act → World → Prop}
theorem store_step {W w1 : World} (hw : Region.wanted o (yielded ops a.tmps) = true) (hN : o.dst = none) (hrun : (execOp a.eval o).run P W = .ok .skip w1) (h : Kc a w1) : if Region.wanted o (yielded ops a.tmps) = true then Oper.wp P o a W Kc Q else Kc (a.put none undef) W := by
 rw [if_pos hw]
 unfold Oper.wp
 rw [hrun]
 show Kc (a.put o.dst undef) w1
 rw [hN]
 exact h
end
section
variable {P : Program} {ops : Array Oper} {Q : Exit → Act → World → Prop} {md : Region.Mode} {S : World → Prop} {ds : List Nat}
theorem lessB {l : Array Bool} {i : Nat} (h : l.getD i true = false) : i < l.size ∧ l[i]? = some false := by
 rcases Nat.lt_or_ge i l.size with hl | hl
 · refine ⟨hl, ?_⟩
   rw [Array.getD_eq_getD_getElem?, Array.getElem?_eq_getElem hl] at h
   rw [Array.getElem?_eq_getElem hl]
   exact congrArg some h
 · rw [Array.getD_eq_getD_getElem?, Array.getElem?_eq_none hl] at h
   cases h
theorem count_setL : ∀ (l : List Bool) (i : Nat), l[i]? = some false → (l.set i true).count false + 1 = l.count false
 | [], i, h => by simp at h
 | x :: r, 0, h => by
  obtain rfl : x = false := by simpa using h
  simp
 | x :: r, i + 1, h => by
  have := count_setL r i (by simpa using h)
  rw [List.set_cons_succ, List.count_cons, List.count_cons]
  omega
theorem count_set {l : Array Bool} {i : Nat} (h : l.getD i true = false) : (l.setIfInBounds i true).toList.count false + 1 = l.toList.count false := by
 obtain ⟨hl, he⟩ := lessB h
 rw [Array.toList_setIfInBounds]
 exact count_setL _ _ (by rw [Array.getElem?_toList]; exact he)
/-- From a state where I holds, whatever comes up: I holds behind it; where nothing is left, Q holds. -/
theorem region_inv (I : Array Bool → Act → World → Prop)
  (hstep : ∀ (l : Array Bool) (a : Act) (w : World) (i : Nat), I l a w → i ∈ Region.ready md ops l → wpOp P ops Q i (fun a' w' => I (l.setIfInBounds i true) a' w') a w)
  (hS : ∀ l a w, I l a w → S w) (hend : ∀ l a w, I l a w → Region.ready md ops l = [] → Q .normal a w) :
  ∀ (n : Nat) (l : Array Bool) (a : Act) (w : World), I l a w → l.toList.count false ≤ n → wpAnyLast P md ops Q S ds n l a w := by
 intro n
 induction n with
 | zero =>
  intro l a w hI hn
  have hr : Region.ready md ops l = [] := by
   rw [List.eq_nil_iff_forall_not_mem]
   intro i hi
   have h := count_set (mem_ready.1 hi).1
   omega
  exact ⟨hr, hend l a w hI hr⟩
 | succ n ih =>
  intro l a w hI hn
  refine ⟨fun hr => hend l a w hI hr, fun i hi => ?_⟩
  have h := count_set (mem_ready.1 hi).1
  exact wpOp_mono (fun a' w' hI' => ⟨fun _ _ => hS _ _ _ hI', ih _ a' w' hI' (by omega)⟩) (hstep l a w i hI hi)
end
theorem put_again (a : Act) (n : Nat) (x y : Value) : (a.put (some n) x).put (some n) y = a.put (some n) y := by
 simp [Act.put]
theorem put_swap (a : Act) (n m : Nat) (x y : Value) (h : n ≠ m) : (a.put (some n) x).put (some m) y = (a.put (some m) y).put (some n) x :=
 Act.put_comm a x y (fun d hd => by injection hd with hd; subst hd; simpa using (Ne.symm h))
theorem eval_same (a : Act) (n : Nat) (x : Value) (h : n < a.tmps.size) : (a.put (some n) x).eval (.tmp n) = x := by
 simp [Act.put, Act.eval, h]
theorem eval_other (a : Act) (n m : Nat) (x : Value) (h : n ≠ m) : (a.put (some n) x).eval (.tmp m) = a.eval (.tmp m) := by
 simp [Act.put, Act.eval, Array.getD_eq_getD_getElem?, Array.getElem?_setIfInBounds_ne h]
theorem put_size (a : Act) (n : Nat) (x : Value) : (a.put (some n) x).tmps.size = a.tmps.size := by simp [Act.put]
theorem put_self (a : Act) (n : Nat) : a.put (some n) (a.eval (.tmp n)) = a := by
 obtain ⟨t, d⟩ := a
 simp only [Act.put, Act.eval]
 congr 1
 refine Array.ext_getElem? fun i => ?_
 by_cases e : n = i
 · subst e
   rcases Nat.lt_or_ge n t.size with h | h
   · simp [h]
   · simp [h]
 · rw [Array.getElem?_setIfInBounds_ne e]
theorem putAll2 (A : Act) (n1 n2 : Nat) (x y : Value) : putAll A [(n1, x), (n2, y)] = (A.put (some n1) x).put (some n2) y := rfl
theorem put2_1 (A : Act) {n1 n2 : Nat} (x y p : Value) (h2 : n1 ≠ n2) : (putAll A [(n1, x), (n2, y)]).put (some n1) p = putAll A [(n1, p), (n2, y)] := by
 rw [putAll2, putAll2, put_swap _ n2 n1 y p (Ne.symm h2), put_again]
theorem put2_2 (A : Act) {n1 n2 : Nat} (x y p : Value) : (putAll A [(n1, x), (n2, y)]).put (some n2) p = putAll A [(n1, x), (n2, p)] := by
 rw [putAll2, putAll2, put_again]
theorem eval2 (A : Act) {n1 n2 : Nat} (x y : Value) (m : Nat) (h1 : n1 ≠ m) (h2 : n2 ≠ m) : (putAll A [(n1, x), (n2, y)]).eval (.tmp m) = A.eval (.tmp m) := by
 rw [putAll2, eval_other _ _ _ _ h2, eval_other _ _ _ _ h1]
theorem eval2_1 (A : Act) {n1 n2 : Nat} (x y : Value) (h2 : n2 ≠ n1) (hs : n1 < A.tmps.size) : (putAll A [(n1, x), (n2, y)]).eval (.tmp n1) = x := by
 rw [putAll2, eval_other _ _ _ _ h2, eval_same _ _ _ hs]
theorem eval2_2 (A : Act) {n1 n2 : Nat} (x y : Value) (hs : n2 < A.tmps.size) : (putAll A [(n1, x), (n2, y)]).eval (.tmp n2) = y := by
 rw [putAll2, eval_same _ _ _ (by rw [put_size]; exact hs)]
theorem wanted_of {o : Oper} {ops : Array Oper} (h : o.guard.isNone = true) (ts : Array Value) : Region.wanted o (yielded ops ts) = true := by
 have : o.guard = none := Option.isNone_iff_eq_none.1 h
 simp [Region.wanted, this]
theorem op_at {ops : Array Oper} {i : Nat} {o : Oper} {x : Op × Option Tmp × Bool} (ho : ops[i]? = some o) (h : (ops[i]?.map fun o => (o.op, o.dst, o.guard.isNone)) = some x) : o.op = x.1 ∧ o.dst = x.2.1 ∧ o.guard.isNone = x.2.2 := by
 rw [ho] at h
 obtain rfl := Option.some.inj h
 exact ⟨rfl, rfl, rfl⟩
theorem dep_of {md : Region.Mode} {ops : Array Oper} {l : Array Bool} {i d : Nat} {o : Oper} (ho : ops[i]? = some o) (hc : (ops[i]?.any fun o => o.after.any fun e => Region.binds md e && e.on == d) = true) (hdep : ∀ e ∈ o.after, Region.binds md e = true → l.getD e.on false = true) : l.getD d false = true := by
 rw [ho] at hc
 have hc2 : (o.after.any fun e => Region.binds md e && e.on == d) = true := hc
 rw [← Array.any_toList, List.any_eq_true] at hc2
 obtain ⟨e, he, h⟩ := hc2
 simp only [Bool.and_eq_true, beq_iff_eq] at h
 rw [← h.2]
 exact hdep e (by simpa using he) h.1
theorem w64' (x : Int) (h0 : -9223372036854775808 ≤ x) (h1 : x ≤ 9223372036854775807) : wrap64 x = x := by unfold wrap64; omega
end Go.Proofs.Ytkocigldchiifaa.H
