/- The smallest one of two numbers; the moves as an iterator. -/
import Derived.RangeFuncNested
import Derived.RangeFuncBound
import Derived.RangeFuncCalls
import Derived.RangeFuncLeaves
import Derived.RangeFuncBox
import Derived.RangeFuncWrites
import Derived.Shelf.Abstract
import Derived.Shelf.RegionOpen
import Derived.WalkKit
import Derived.OwnWalkIn
import Derived.TacticsInMore
import Derived.LoopNIn
import Derived.LoopIn
import Derived.Maps.AppendAt
import Derived.Test.YtkocigldchiifaaH4
import Derived.Test.YtkocigldchiifaaM0
namespace Go.Proofs.Ytkocigldchiifaa.H
open Go.RowKit Go.Proofs.YtkocigldchiifaaW.PrintWords Go.Proofs.YtkocigldchiifaaW.PrintLast Go.Proofs.YtkocigldchiifaaW.PrintMore
open Go.Shelf Go.Proofs.Ytkocigldchiifaa.QA
attribute [local go_sem] Oper.semAt_some
set_option linter.unusedVariables false
set_option linter.unusedSimpArgs false


section
attribute [local go_sem] max2_int min2_int max_two min_two max_three min_three max_four min_four
set_option maxRecDepth 100000 in
/-- slices.Min of two numbers. -/
theorem min2_calls (g c : Nat) (x y : Int) (w : World) (h0 : w.cell? ⟨g, 0, none⟩ = some (.int .i64 x)) (h1 : w.cell? ⟨g, 1, none⟩ = some (.int .i64 y)) :
  Calls Try.prog 77 #[.slice (some ⟨g, 0, none⟩) 2 2] w fun e w' => e = .returned (.int .i64 (min x y)) ∧ w' = w := by
 have HC := Aside0.mk (And.intro h0 h1)
 go_enter Try.func77, Try.ntmps77
 go_wp2
 go_loopw [3, 4] (fun s3 s4 wr => wr = w ∧ ((s3 = .int .i64 x ∧ s4 = .int .i64 1) ∨ (s3 = .int .i64 (min x y) ∧ s4 = .int .i64 2))) (fun s3 s4 _ => 2 - (intOf s4).toNat)
 case atStart => exact ⟨rfl, .inl ⟨rfl, rfl⟩⟩
 case round =>
  obtain ⟨rfl, (⟨rfl, rfl⟩ | ⟨rfl, rfl⟩)⟩ := hrel
  · go_wp2
    refine ⟨⟨trivial, .inr ⟨?_, rfl⟩⟩, by simp [intOf]⟩
    congr 1
    split <;> omega
  · go_wp2
    go_ret
    exact ⟨rfl, rfl⟩
end
theorem lowest_calls (g : Nat) (x y : Int) (w : World) (h0 : w.cell? ⟨g, 0, none⟩ = some (.int .i64 x)) (h1 : w.cell? ⟨g, 1, none⟩ = some (.int .i64 y)) :
  Calls Try.prog 65 #[.slice (some ⟨g, 0, none⟩) 2 2] w fun e w' => e = .returned (.int .i64 (min x y)) ∧ w' = w := by
 go_enter Try.func65, Try.ntmps65
 go_wp2_with (go_at_call 77; refine (min2_calls g 2 x y w h0 h1).mono ?_; rintro e w1 ⟨rfl, rfl⟩)
 go_ret
 exact ⟨rfl, rfl⟩
/-- The moves from a pair, as an iterator. -/
theorem moves_stops (n : Nat) (hn : 1 ≤ n) (Bp Bt B g n₀ : Nat) (a b : List S59) (i k : Int) (w : World)
    (hp0 : w.cell? ⟨Bp, 0, none⟩ = some (.int .i64 i)) (hp1 : w.cell? ⟨Bp, 1, none⟩ = some (.int .i64 k)) (htb : w.heap[Bt]? = some (.cells #[.pointer (some ⟨g, 0, none⟩)] 80 (0, 0)))
    (hT : ∀ W', Below n₀ w W' → Tb W' g a b) (hn0 : n₀ ≤ w.heap.size) (hB : B < w.heap.size) (hptr : ptrAt w B = none) (hi : 0 ≤ i ∧ i ≤ 1000) (hk : 0 ≤ k ∧ k ≤ 1000) :
    SeqStopsK Fence.wide n Try.prog 72 #[.pointer (some ⟨Bp, 0, none⟩), .pointer (some ⟨Bt, 0, none⟩)] (fun x : {q : S25 // q ∈ movesOf a b i k} => #[Value.agg #[.int .i64 x.1.f0, .int .i64 x.1.f1]]) (KpM n₀ Bt B) (fun ys => ys.map (·.1) = movesOf a b i k) (fun pre => pre.map (·.1) <+: movesOf a b i k) 3 w := by
  intro lp J Jx W hW hJ hJx hY h0
  have hab : ∀ {J : List {q : S25 // q ∈ movesOf a b i k} → World → Prop}, AbidesFrom W.heap.size J → AbidesFrom W.heap.size (fun (pre : List S25) X => ∃ ys : List {q : S25 // q ∈ movesOf a b i k}, ys.map (·.1) = pre ∧ J ys X) := fun hJ s A B row hs hg hr => by
    obtain ⟨ys, h1, h2⟩ := hs
    exact ⟨ys, h1, hJ ys A B row h2 hg hr⟩
  refine (moves1_in n hn lp Bp Bt B g n₀ a b i k (fun pre X => ∃ ys : List {q : S25 // q ∈ movesOf a b i k}, ys.map (·.1) = pre ∧ J ys X) (fun pre X => ∃ ys : List {q : S25 // q ∈ movesOf a b i k}, ys.map (·.1) = pre ∧ Jx ys X) ?_ W (hab hJ) (pw_cell_below hW hp0) (pw_cell_below hW hp1) (blk_below htb hW)
    (fun W' hb => hT W' ((hW.mono hn0).trans hb)) (Nat.le_trans hn0 hW.size) (Nat.lt_of_lt_of_le hB hW.size) ((ptr_below hW hB).trans hptr) hi hk ⟨[], rfl, h0⟩).mono ?_
  · rintro pre x X hp ⟨ys, hys, hJ1⟩ hlen
    have hx : x ∈ movesOf a b i k := hp.subset (by simp)
    obtain ⟨fn, tmps, assign, body, hy, hR⟩ := hY ys ⟨x, hx⟩ X hJ1 (by rw [← hys] at hlen; simpa using hlen)
    refine ⟨fn, tmps, assign, body, hy, hR.mono ?_⟩
    rintro e W' (⟨h1, h2, h3⟩ | ⟨h1, h2⟩)
    · exact .inl ⟨h1, ⟨ys ++ [⟨x, hx⟩], by simp [hys], h2⟩, h3⟩
    · exact .inr ⟨h1, ys ++ [⟨x, hx⟩], by simp [hys], h2⟩
  · rintro e W' ⟨hv, (⟨pre, h1, ys, h2, h3⟩ | ⟨pre, h1, ys, h2, h3⟩)⟩
    · exact ⟨hv, .inl ⟨ys, h2.trans h1, h3⟩⟩
    · exact ⟨hv, .inr ⟨ys, (by show List.map _ ys <+: _; rw [h2]; exact h1), h3⟩⟩

end Go.Proofs.Ytkocigldchiifaa.H
