/- A barrier is accepted. -/
import Derived.Test.YtkocigldchiifaaHK
import Derived.Test.YtkocigldchiifaaP3
namespace Go.Proofs.Ytkocigldchiifaa.H
open Go.RowKit Go.Proofs.YtkocigldchiifaaW.PrintWords Go.Proofs.YtkocigldchiifaaW.PrintLast Go.Proofs.YtkocigldchiifaaW.PrintMore
open Go.Shelf Go.Proofs.Ytkocigldchiifaa.QA
set_option linter.unusedVariables false
set_option linter.unusedSimpArgs false

theorem rd25 (l : List S25) (i : Nat) (h : i < l.length) : l[i]? = some (rd_T25 l i) := by
 unfold rd_T25
 rw [Int.toNat_natCast, List.getD_eq_getElem?_getD, List.getElem?_eq_getElem h]
 rfl
theorem vfFrom_zero (a b : List S59) (h : Int) (l : List S25) : ∀ (n i : Nat), (∀ j, i ≤ j → j < i + n → vfAt a b h l j = 0) → vfFrom a b h l n i = 0
 | 0, _, _ => rfl
 | n + 1, i, hz => by
  rw [vfFrom, if_pos (hz i (Nat.le_refl _) (by omega))]
  exact vfFrom_zero a b h l n (i + 1) (fun j h1 h2 => hz j (by omega) (by omega))
theorem vfFrom_all (a b : List S59) (h : Int) (l : List S25) : ∀ (n i : Nat), vfFrom a b h l n i = 0 → ∀ j, i ≤ j → j < i + n → vfAt a b h l j = 0
 | 0, i, _, j, h1, h2 => by omega
 | n + 1, i, hz, j, h1, h2 => by
  rw [vfFrom] at hz
  split at hz
  · rename_i h0
    by_cases hj : j = i
    · rw [hj]; exact h0
    · exact vfFrom_all a b h l n (i + 1) hz j (by omega) (by omega)
  · rename_i h0
    exact absurd hz h0
theorem vfAt_zero (a b : List S59) (h : Int) (l : List S25) (i : Nat) : vfAt a b h l i = 0 ↔ rd_T25 l i ∈ aboveOf a b h ∧ (0 < i → preB (rd_T25 l ((i : Int) - 1)) (rd_T25 l i) = true) := by
 unfold vfAt
 rw [mem_above]
 constructor
 · intro hz
   split at hz
   · omega
   · rename_i h1
     split at hz
     · omega
     · rename_i h2
       split at hz
       · omega
       · rename_i h3
         refine ⟨⟨by simpa using h1, by omega⟩, fun hi => ?_⟩
         cases hp : preB (rd_T25 l ((i : Int) - 1)) (rd_T25 l i) with
         | true => rfl
         | false => exact absurd ⟨hi, hp⟩ h2
 · rintro ⟨⟨h1, h2⟩, h3⟩
   rw [if_neg (by rw [h1]; decide), if_neg (fun h4 => by rw [h3 h4.1] at h4; exact absurd h4.2 (by decide)), if_neg (by omega)]
/-- A list is accepted just if it is a barrier. -/
theorem verF_zero (a b : List S59) (h : Int) (l : List S25) : verF a b h l = 0 ↔ BarOK a b h l := by
 constructor
 · intro hv
   unfold verF at hv
   split at hv
   · omega
   · rename_i h0
     split at hv
     · rename_i h1
       split at hv
       · rename_i h2
         have hall : ∀ j, j < l.length → vfAt a b h l j = 0 := fun j hj => vfFrom_all a b h l l.length 0 h1 j (Nat.zero_le _) (by omega)
         refine ⟨fun e => h0 (by rw [e]; rfl), fun q hq => ?_, fun i p q hp hq => ?_, fun p hp => ?_, fun p hp => ?_⟩
         · obtain ⟨i, hi⟩ := List.getElem?_of_mem hq
           have hlt := (List.getElem?_eq_some_iff.1 hi).1
           rw [rd25 l i hlt] at hi
           rw [← Option.some.inj hi]
           exact ((vfAt_zero a b h l i).1 (hall i hlt)).1
         · have hlt := (List.getElem?_eq_some_iff.1 hq).1
           rw [rd25 l i (by omega)] at hp
           rw [rd25 l (i + 1) hlt] at hq
           have h3 := ((vfAt_zero a b h l (i + 1)).1 (hall _ hlt)).2 (by omega)
           rw [show ((i + 1 : Nat) : Int) - 1 = (i : Int) by omega, Option.some.inj hp, Option.some.inj hq] at h3
           exact h3
         · rw [rd25 l 0 (by omega)] at hp
           rw [← Option.some.inj hp]
           exact h2.1
         · rw [List.getLast?_eq_getElem?, rd25 l (l.length - 1) (by omega), show ((l.length - 1 : Nat) : Int) = (l.length : Int) - 1 by omega] at hp
           rw [← Option.some.inj hp]
           exact h2.2
       · omega
     · omega
 · intro hb
   have h0 : l.length ≠ 0 := fun e => hb.ne (List.eq_nil_of_length_eq_zero e)
   unfold verF
   rw [if_neg h0, if_pos, if_pos]
   · refine ⟨hb.beg _ (rd25 l 0 (by omega)), hb.fin _ ?_⟩
     rw [List.getLast?_eq_getElem?, rd25 l (l.length - 1) (by omega), show ((l.length - 1 : Nat) : Int) = (l.length : Int) - 1 by omega]
   · refine vfFrom_zero a b h l _ _ (fun j _ hj => (vfAt_zero a b h l j).2 ⟨hb.mem _ (List.mem_of_getElem? (rd25 l j (by omega))), fun hi => ?_⟩)
     refine hb.nxt (j - 1) _ _ ?_ ?_
     · rw [rd25 l (j - 1) (by omega), show ((j - 1 : Nat) : Int) = (j : Int) - 1 by omega]
     · rw [show j - 1 + 1 = j by omega]
       exact rd25 l j (by omega)

end Go.Proofs.Ytkocigldchiifaa.H
