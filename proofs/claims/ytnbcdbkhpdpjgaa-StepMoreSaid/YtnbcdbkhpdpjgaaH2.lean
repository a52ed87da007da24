/- step.Name. -/
import Derived.Test.YtnbcdbkhpdpjgaaH1
import Derived.Laws.EntriesVeiled
import Derived.Lib.ConvBytes
namespace Go.Proofs.Ytnbcdbkhpdpjgaa.H
open Go.RowKit Go.Proofs.YtnbcdbkhpdpjgaaW.PrintWords Go.Proofs.YtnbcdbkhpdpjgaaW.PrintLast Go.Proofs.YtnbcdbkhpdpjgaaW.PrintMore
open Go.Shelf Go.Proofs.Ytnbcdbkhpdpjgaa.QA
set_option linter.unusedVariables false
set_option linter.unusedSimpArgs false

set_option maxHeartbeats 1000000 in
/-- step.Name$1 -/
theorem name1 (x : Int) (w : World) : Calls Try.prog 41 #[.int .u8 x] w fun e w' => e = .returned (.bool (isIn 97 x 122)) ∧ Below w.heap.size w w' := by
  unfold isIn
  by_cases h : 97 ≤ x
  · have hb : decide (97 ≤ x) = true := decide_eq_true h
    go_enter Try.func41, Try.ntmps41
    go_wp2
    go_ret
    exact ⟨by simp [h], by repeat (first | exact Below.refl _ _ | apply pw_below_drewN | apply below_alloc)⟩
  · have hb : decide (97 ≤ x) = false := decide_eq_false h
    go_enter Try.func41, Try.ntmps41
    go_wp2
    go_ret
    exact ⟨by simp [h], by repeat (first | exact Below.refl _ _ | apply pw_below_drewN | apply below_alloc)⟩

set_option maxHeartbeats 1000000 in
/-- step.Name$2 -/
theorem name2 (B : Nat) (l : List Int) (w : World) (hc : w.cell? ⟨B, 0, none⟩ = some (.func (.func 41) #[] #[])) : Pred 43 #[.pointer (some ⟨B, 0, none⟩)] (Value.int .u8) (· ∈ l) (fun p => !isIn 97 p 122) w := by
  intro W x _ hW
  have hc' := (hW.cell (World.block_lt_of_cell? w _ hc)).trans hc
  clear hc hW
  go_enter Try.func43, Try.ntmps43
  go_wp2_with (go_at_call 41; refine (name1 _ _).mono ?_; rintro e w' ⟨rfl, hb⟩)
  go_ret
  exact ⟨rfl, hb⟩

def step_Name.f (s : ByteArray) : Option Bool := some (decide (0 < s.size) && (decide (s.size ≤ 8) && !(bytesOf s).any (fun p => !isIn 97 p 122)))

theorem nameCon (a0 : ByteArray) (h8 : a0.size ≤ 8) (W : World) (g B c : Nat) (hg : g = W.heap.size) (hc : W.cell? ⟨B, 0, none⟩ = some (.func (.func 41) #[] #[])) (hcap : a0.size ≤ c) :
    Calls Try.prog 42 #[.slice (some ⟨g, 0, none⟩) a0.size c, .func (.func 43) #[] #[.pointer (some ⟨B, 0, none⟩)]] (Lib.bytesWorld W 5 a0) fun e w' => e = .returned (.bool ((bytesOf a0).any (fun p => !isIn 97 p 122))) ∧ Below W.heap.size W w' := by
  subst hg
  have hb := bytes_below (Below.refl W.heap.size W) (Nat.le_refl _) 5 a0
  have hC : Kd.C (Kd.int .u8) (Lib.bytesWorld W 5 a0) (some ⟨W.heap.size, 0, none⟩) (bytesOf a0).length (bytesOf a0) := by
    rw [bytesOf_length]
    exact Kd.C_of_reads (bytes_reads W 5 a0 (by omega))
  have := conBytes 43 #[.pointer (some ⟨B, 0, none⟩)] (fun p => !isIn 97 p 122) (enters_of Try.func43 (by kernel_rfl) rfl) (some ⟨W.heap.size, 0, none⟩) c (bytesOf a0) (Lib.bytesWorld W 5 a0)
    (name2 B _ _ (pw_cell_below hb hc)) hC (by rw [bytesOf_length]; exact hcap)
  rw [bytesOf_length] at this
  exact this.mono fun e w' ⟨he, h⟩ => ⟨he, below_then hb hb.size h⟩

set_option maxHeartbeats 4000000 in
set_option maxRecDepth 100000 in
theorem step_Name.calls (a0 : ByteArray) (r : Bool) (w : World) (h : step_Name.f a0 = some r) :
    Calls Try.prog 16 #[.string a0] w fun e w' => e = .returned (.bool r) ∧ Below w.heap.size w w' := by
  have HE := Aside0.mk h
  clear h
  by_cases h0 : 0 < a0.size
  · have h0b : decide (0 < (a0.size : Int)) = true := decide_eq_true (by omega)
    by_cases h8 : a0.size ≤ 8
    · have h8b : decide ((a0.size : Int) ≤ 8) = true := decide_eq_true (by omega)
      have e : r = !(bytesOf a0).any (fun p => !isIn 97 p 122) := by have := HE.out; unfold step_Name.f at this; simpa [h0, h8] using this.symm
      subst e
      clear HE h8b
      have h8b : decide ((a0.size : Int) ≤ 8) = true := decide_eq_true (by omega)
      go_enter Try.func16, Try.ntmps16
      have kb := fun W => print_bytes (P := Try.prog) 9 64 5 Try.underlying9 Try.underlying64 Try.underlying5 a0 W
      go_wp2_with (go_at_call 42; refine (nameCon a0 h8 _ _ w.heap.size _ (by simp) (by simp) (grownCap_ge _ _ _ _)).mono ?_; rintro e w' ⟨rfl, hb⟩)
      go_ret
      exact ⟨rfl, below_then (below_alloc (Below.refl _ _) _) (by simp) hb⟩
    · have h8b : decide ((a0.size : Int) ≤ 8) = false := decide_eq_false (by omega)
      have e : r = false := by have := HE.out; unfold step_Name.f at this; simpa [h0, h8] using this.symm
      subst e
      clear HE h8
      go_enter Try.func16, Try.ntmps16
      go_wp2
      go_ret
      exact ⟨rfl, by repeat (first | exact Below.refl _ _ | apply pw_below_drewN | apply below_alloc)⟩
  · have h0b : decide (0 < (a0.size : Int)) = false := decide_eq_false (by omega)
    have e : r = false := by have := HE.out; unfold step_Name.f at this; simpa [h0] using this.symm
    subst e
    clear HE
    go_enter Try.func16, Try.ntmps16
    go_wp2
    go_ret
    exact ⟨rfl, by repeat (first | exact Below.refl _ _ | apply pw_below_drewN | apply below_alloc)⟩

end Go.Proofs.Ytnbcdbkhpdpjgaa.H
