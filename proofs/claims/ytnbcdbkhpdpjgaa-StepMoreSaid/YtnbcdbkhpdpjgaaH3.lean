/- The closure of (step.Sheet).arcs: is an equal arc there already? -/
import Derived.Test.YtnbcdbkhpdpjgaaQA2
import Derived.Test.YtnbcdbkhpdpjgaaH0
namespace Go.Proofs.Ytnbcdbkhpdpjgaa.H
open Go.RowKit Go.Proofs.YtnbcdbkhpdpjgaaW.PrintWords Go.Proofs.YtnbcdbkhpdpjgaaW.PrintLast Go.Proofs.YtnbcdbkhpdpjgaaW.PrintMore
open Go.Shelf Go.Proofs.Ytnbcdbkhpdpjgaa.QA
attribute [local go_sem high] eqA98
set_option linter.unusedVariables false
set_option linter.unusedSimpArgs false

set_option maxHeartbeats 1000000 in
set_option maxRecDepth 100000 in
/-- (step.Sheet).arcs$1 -/
theorem arcs1 (B : Nat) (a0 a1 : Int) (l : List S98) (w : World) (h0 : w.cell? ⟨B, 0, none⟩ = some (.int .i64 a0)) (h1 : w.cell? ⟨B, 1, none⟩ = some (.int .i64 a1)) :
    Pred 74 #[.pointer (some ⟨B, 0, none⟩)] (fun x : S98 => Value.agg #[.int .i64 x.f0, .int .i64 x.f1]) (· ∈ l) (fun x => a0 == x.f0 && (a1 == x.f1)) w := by
  intro W x _ hW
  have h0' := (hW.cell (World.block_lt_of_cell? w _ h0)).trans h0
  have h1' := (hW.cell (World.block_lt_of_cell? w _ h1)).trans h1
  have hu98 := Try.underlying98
  have hlt : B < W.heap.size := World.block_lt_of_cell? W _ h0'
  clear h0 h1 hW
  go_enter Try.func74, Try.ntmps74
  go_wp2
  go_ret
  exact ⟨rfl, by repeat (first | exact Below.refl _ _ | apply below_alloc)⟩

def conArcsAt.f (l : List S98) (a0 a1 : Int) : Option Bool := some (l.any fun x => a0 == x.f0 && (a1 == x.f1))

theorem conArcsAt.calls (A : Option Addr) (c : Nat) (l : List S98) (a0 a1 : Int) (r : Bool) (w : World) (hr : Kd.C k98 w A l.length l) (hc : l.length ≤ c) (h : conArcsAt.f l a0 a1 = some r) {gb : Nat}
    (h0 : w.cell? ⟨gb, 0, none⟩ = some (.int .i64 a0)) (h1 : w.cell? ⟨gb, 1, none⟩ = some (.int .i64 a1)) :
    Calls Try.prog 66 #[.slice A l.length c, .func (.func 74) #[] #[.pointer (some ⟨gb, 0, none⟩)]] w fun e w' => e = .returned (.bool r) ∧ Below w.heap.size w w' := by
  obtain rfl := Option.some.inj h
  exact conArcs 74 #[.pointer (some ⟨gb, 0, none⟩)] _ (enters_of Try.func74 (by kernel_rfl) rfl) A c l w (arcs1 gb a0 a1 l w h0 h1) hr hc

end Go.Proofs.Ytnbcdbkhpdpjgaa.H
