/-
  No cell of these rows narrows 'for every input' (looked for: loops, veiled, ifaces, maps, wideKeys, modest, calm, conditions, laid).
  DERIVED. THE GIVEN ROWS OF THIS SEAT. 11 by the template 'for every input the law returns true; each argument reads behind the call as it read before'; 0 by the template 'total and deterministic' (their statements: YtkocigldchiifaaTotals.lean).
  GIVEN WITH THE SEED: the statements are not yours to turn. If you find one false, say at which input.
  Laid BY PROGRAM, IN A SANDBOX (cutbox-rows.mjs): the forced cells as the released guide's own fill.sh prints them over the translation 65ff39a553db83df… (all of the seat's roots in one cut). By AI agents, Wed Nov 11 2026. No macro, syntax, notation, axiom, sorry.
-/
import Derived.Test.YtkocigldchiifaaChecked
import GoSem.Claim
import GoSem.ClaimJoined
import GoSem.ClaimMapViews
import Derived.JoinedTies
import Derived.KernelRfl
namespace Go.Proofs.Ytkocigldchiifaa
/- THE CELL 'sum', in the pinned program and in every row, IS THE sha256 OF THE DUMP (.gsa) THAT YtkocigldchiifaaProg.lean LOADS. Nothing in Lean hashes anything: it is a label: what it is worth is what the hold of that sum in a sandbox is worth. -/
noncomputable def Try.pinned : Pinned := { name := "ytkocigldchiifaa", sum := "65ff39a553db83dff9dd6c73a7e0f653b1f6d36d4e3d203ed58a878790b5ae12", checked := Try.checked }
namespace Rows
def none {H : Type} : Left H := { results := [], args := [] }

/-- 'pianolalaw07.AlignGaps': WHATEVER THE INPUT: true; the input reads as it did. -/
def alignGapsSpec : ChangeSpec := { name := "alignGaps", fn := fun _ => fun
  | [d1, d2, d3] => { results := [.lit (.bool true)], args := [d1, d2, d3] }
  | _ => none }
def alignGapsRow : OpenClaim := { program := "ytkocigldchiifaa", sum := "65ff39a553db83dff9dd6c73a7e0f653b1f6d36d4e3d203ed58a878790b5ae12", func := "pianola/pianolalaw07.AlignGaps", spec := "alignGaps", unfollowed := true, recurses := true, plainKeys := false, apart := false }
def AlignGapsSaid : Prop := alignGapsRow.holds Try.pinned (OpenSpec.ofChange alignGapsSpec)

/-- ITS FALSE NEIGHBOUR: 'it returns false'. Refute it at one input. -/
def alignGapsWrong : ChangeSpec := { name := "alignGaps", fn := fun _ => fun
  | [d1, d2, d3] => { results := [.lit (.bool false)], args := [d1, d2, d3] }
  | _ => none }
def AlignGapsWrongFalsely : Prop := alignGapsRow.holds Try.pinned (OpenSpec.ofChange alignGapsWrong)

/-- 'pianolalaw07.AlignBarriers': WHATEVER THE INPUT: true; the input reads as it did. -/
def alignBarriersSpec : ChangeSpec := { name := "alignBarriers", fn := fun _ => fun
  | [d1, d2, d3, d4] => { results := [.lit (.bool true)], args := [d1, d2, d3, d4] }
  | _ => none }
def alignBarriersRow : OpenClaim := { program := "ytkocigldchiifaa", sum := "65ff39a553db83dff9dd6c73a7e0f653b1f6d36d4e3d203ed58a878790b5ae12", func := "pianola/pianolalaw07.AlignBarriers", spec := "alignBarriers", unfollowed := true, recurses := true, plainKeys := false, apart := false }
def AlignBarriersSaid : Prop := alignBarriersRow.holds Try.pinned (OpenSpec.ofChange alignBarriersSpec)

/-- ITS FALSE NEIGHBOUR: 'it returns false'. Refute it at one input. -/
def alignBarriersWrong : ChangeSpec := { name := "alignBarriers", fn := fun _ => fun
  | [d1, d2, d3, d4] => { results := [.lit (.bool false)], args := [d1, d2, d3, d4] }
  | _ => none }
def AlignBarriersWrongFalsely : Prop := alignBarriersRow.holds Try.pinned (OpenSpec.ofChange alignBarriersWrong)

/-- 'pianolalaw07.AlignMetric': WHATEVER THE INPUT: true; the input reads as it did. -/
def alignMetricSpec : ChangeSpec := { name := "alignMetric", fn := fun _ => fun
  | [d1, d2, d3] => { results := [.lit (.bool true)], args := [d1, d2, d3] }
  | _ => none }
def alignMetricRow : OpenClaim := { program := "ytkocigldchiifaa", sum := "65ff39a553db83dff9dd6c73a7e0f653b1f6d36d4e3d203ed58a878790b5ae12", func := "pianola/pianolalaw07.AlignMetric", spec := "alignMetric", unfollowed := true, recurses := true, plainKeys := false, apart := false }
def AlignMetricSaid : Prop := alignMetricRow.holds Try.pinned (OpenSpec.ofChange alignMetricSpec)

/-- ITS FALSE NEIGHBOUR: 'it returns false'. Refute it at one input. -/
def alignMetricWrong : ChangeSpec := { name := "alignMetric", fn := fun _ => fun
  | [d1, d2, d3] => { results := [.lit (.bool false)], args := [d1, d2, d3] }
  | _ => none }
def AlignMetricWrongFalsely : Prop := alignMetricRow.holds Try.pinned (OpenSpec.ofChange alignMetricWrong)

/-- 'pianolalaw07.AlignRepeated': WHATEVER THE INPUT: true; the input reads as it did. -/
def alignRepeatedSpec : ChangeSpec := { name := "alignRepeated", fn := fun _ => fun
  | [d1, d2, d3, d4] => { results := [.lit (.bool true)], args := [d1, d2, d3, d4] }
  | _ => none }
def alignRepeatedRow : OpenClaim := { program := "ytkocigldchiifaa", sum := "65ff39a553db83dff9dd6c73a7e0f653b1f6d36d4e3d203ed58a878790b5ae12", func := "pianola/pianolalaw07.AlignRepeated", spec := "alignRepeated", unfollowed := true, recurses := true, plainKeys := false, apart := false }
def AlignRepeatedSaid : Prop := alignRepeatedRow.holds Try.pinned (OpenSpec.ofChange alignRepeatedSpec)

/-- ITS FALSE NEIGHBOUR: 'it returns false'. Refute it at one input. -/
def alignRepeatedWrong : ChangeSpec := { name := "alignRepeated", fn := fun _ => fun
  | [d1, d2, d3, d4] => { results := [.lit (.bool false)], args := [d1, d2, d3, d4] }
  | _ => none }
def AlignRepeatedWrongFalsely : Prop := alignRepeatedRow.holds Try.pinned (OpenSpec.ofChange alignRepeatedWrong)

/-- 'pianolalaw07.AlignChanged': WHATEVER THE INPUT: true; the input reads as it did. -/
def alignChangedSpec : ChangeSpec := { name := "alignChanged", fn := fun _ => fun
  | [d1, d2, d3, d4] => { results := [.lit (.bool true)], args := [d1, d2, d3, d4] }
  | _ => none }
def alignChangedRow : OpenClaim := { program := "ytkocigldchiifaa", sum := "65ff39a553db83dff9dd6c73a7e0f653b1f6d36d4e3d203ed58a878790b5ae12", func := "pianola/pianolalaw07.AlignChanged", spec := "alignChanged", unfollowed := true, recurses := true, plainKeys := false, apart := false }
def AlignChangedSaid : Prop := alignChangedRow.holds Try.pinned (OpenSpec.ofChange alignChangedSpec)

/-- ITS FALSE NEIGHBOUR: 'it returns false'. Refute it at one input. -/
def alignChangedWrong : ChangeSpec := { name := "alignChanged", fn := fun _ => fun
  | [d1, d2, d3, d4] => { results := [.lit (.bool false)], args := [d1, d2, d3, d4] }
  | _ => none }
def AlignChangedWrongFalsely : Prop := alignChangedRow.holds Try.pinned (OpenSpec.ofChange alignChangedWrong)

/-- 'pianolalaw07.AlignTurned': WHATEVER THE INPUT: true; the input reads as it did. -/
def alignTurnedSpec : ChangeSpec := { name := "alignTurned", fn := fun _ => fun
  | [d1, d2, d3] => { results := [.lit (.bool true)], args := [d1, d2, d3] }
  | _ => none }
def alignTurnedRow : OpenClaim := { program := "ytkocigldchiifaa", sum := "65ff39a553db83dff9dd6c73a7e0f653b1f6d36d4e3d203ed58a878790b5ae12", func := "pianola/pianolalaw07.AlignTurned", spec := "alignTurned", unfollowed := true, recurses := true, plainKeys := false, apart := false }
def AlignTurnedSaid : Prop := alignTurnedRow.holds Try.pinned (OpenSpec.ofChange alignTurnedSpec)

/-- ITS FALSE NEIGHBOUR: 'it returns false'. Refute it at one input. -/
def alignTurnedWrong : ChangeSpec := { name := "alignTurned", fn := fun _ => fun
  | [d1, d2, d3] => { results := [.lit (.bool false)], args := [d1, d2, d3] }
  | _ => none }
def AlignTurnedWrongFalsely : Prop := alignTurnedRow.holds Try.pinned (OpenSpec.ofChange alignTurnedWrong)

/-- 'pianolalaw07.AlignFirst': WHATEVER THE INPUT: true; the input reads as it did. -/
def alignFirstSpec : ChangeSpec := { name := "alignFirst", fn := fun _ => fun
  | [d1, d2] => { results := [.lit (.bool true)], args := [d1, d2] }
  | _ => none }
def alignFirstRow : OpenClaim := { program := "ytkocigldchiifaa", sum := "65ff39a553db83dff9dd6c73a7e0f653b1f6d36d4e3d203ed58a878790b5ae12", func := "pianola/pianolalaw07.AlignFirst", spec := "alignFirst", unfollowed := true, recurses := true, plainKeys := false, apart := false }
def AlignFirstSaid : Prop := alignFirstRow.holds Try.pinned (OpenSpec.ofChange alignFirstSpec)

/-- ITS FALSE NEIGHBOUR: 'it returns false'. Refute it at one input. -/
def alignFirstWrong : ChangeSpec := { name := "alignFirst", fn := fun _ => fun
  | [d1, d2] => { results := [.lit (.bool false)], args := [d1, d2] }
  | _ => none }
def AlignFirstWrongFalsely : Prop := alignFirstRow.holds Try.pinned (OpenSpec.ofChange alignFirstWrong)

/-- 'pianolalaw07.AlignHeights': WHATEVER THE INPUT: true; the input reads as it did. -/
def alignHeightsSpec : ChangeSpec := { name := "alignHeights", fn := fun _ => fun
  | [d1, d2, d3, d4] => { results := [.lit (.bool true)], args := [d1, d2, d3, d4] }
  | _ => none }
def alignHeightsRow : OpenClaim := { program := "ytkocigldchiifaa", sum := "65ff39a553db83dff9dd6c73a7e0f653b1f6d36d4e3d203ed58a878790b5ae12", func := "pianola/pianolalaw07.AlignHeights", spec := "alignHeights", unfollowed := true, recurses := true, plainKeys := false, apart := false }
def AlignHeightsSaid : Prop := alignHeightsRow.holds Try.pinned (OpenSpec.ofChange alignHeightsSpec)

/-- ITS FALSE NEIGHBOUR: 'it returns false'. Refute it at one input. -/
def alignHeightsWrong : ChangeSpec := { name := "alignHeights", fn := fun _ => fun
  | [d1, d2, d3, d4] => { results := [.lit (.bool false)], args := [d1, d2, d3, d4] }
  | _ => none }
def AlignHeightsWrongFalsely : Prop := alignHeightsRow.holds Try.pinned (OpenSpec.ofChange alignHeightsWrong)

/-- 'pianolalaw07.AlignEither': WHATEVER THE INPUT: true; the input reads as it did. -/
def alignEitherSpec : ChangeSpec := { name := "alignEither", fn := fun _ => fun
  | [d1, d2, d3, d4] => { results := [.lit (.bool true)], args := [d1, d2, d3, d4] }
  | _ => none }
def alignEitherRow : OpenClaim := { program := "ytkocigldchiifaa", sum := "65ff39a553db83dff9dd6c73a7e0f653b1f6d36d4e3d203ed58a878790b5ae12", func := "pianola/pianolalaw07.AlignEither", spec := "alignEither", unfollowed := true, recurses := true, plainKeys := false, apart := false }
def AlignEitherSaid : Prop := alignEitherRow.holds Try.pinned (OpenSpec.ofChange alignEitherSpec)

/-- ITS FALSE NEIGHBOUR: 'it returns false'. Refute it at one input. -/
def alignEitherWrong : ChangeSpec := { name := "alignEither", fn := fun _ => fun
  | [d1, d2, d3, d4] => { results := [.lit (.bool false)], args := [d1, d2, d3, d4] }
  | _ => none }
def AlignEitherWrongFalsely : Prop := alignEitherRow.holds Try.pinned (OpenSpec.ofChange alignEitherWrong)

/-- 'pianolalaw07.AlignProved': WHATEVER THE INPUT: true; the input reads as it did. -/
def alignProvedSpec : ChangeSpec := { name := "alignProved", fn := fun _ => fun
  | [d1, d2, d3, d4, d5] => { results := [.lit (.bool true)], args := [d1, d2, d3, d4, d5] }
  | _ => none }
def alignProvedRow : OpenClaim := { program := "ytkocigldchiifaa", sum := "65ff39a553db83dff9dd6c73a7e0f653b1f6d36d4e3d203ed58a878790b5ae12", func := "pianola/pianolalaw07.AlignProved", spec := "alignProved", unfollowed := true, recurses := true, plainKeys := false, apart := false }
def AlignProvedSaid : Prop := alignProvedRow.holds Try.pinned (OpenSpec.ofChange alignProvedSpec)

/-- ITS FALSE NEIGHBOUR: 'it returns false'. Refute it at one input. -/
def alignProvedWrong : ChangeSpec := { name := "alignProved", fn := fun _ => fun
  | [d1, d2, d3, d4, d5] => { results := [.lit (.bool false)], args := [d1, d2, d3, d4, d5] }
  | _ => none }
def AlignProvedWrongFalsely : Prop := alignProvedRow.holds Try.pinned (OpenSpec.ofChange alignProvedWrong)

/-- 'pianolalaw07.AlignKnown': WHATEVER THE INPUT: true; the input reads as it did. -/
def alignKnownSpec : ChangeSpec := { name := "alignKnown", fn := fun _ => fun
  | [] => { results := [.lit (.bool true)], args := [] }
  | _ => none }
def alignKnownRow : OpenClaim := { program := "ytkocigldchiifaa", sum := "65ff39a553db83dff9dd6c73a7e0f653b1f6d36d4e3d203ed58a878790b5ae12", func := "pianola/pianolalaw07.AlignKnown", spec := "alignKnown", unfollowed := true, recurses := true, plainKeys := false, apart := false }
def AlignKnownSaid : Prop := alignKnownRow.holds Try.pinned (OpenSpec.ofChange alignKnownSpec)

/-- ITS FALSE NEIGHBOUR: 'it returns false'. Refute it at one input. -/
def alignKnownWrong : ChangeSpec := { name := "alignKnown", fn := fun _ => fun
  | [] => { results := [.lit (.bool false)], args := [] }
  | _ => none }
def AlignKnownWrongFalsely : Prop := alignKnownRow.holds Try.pinned (OpenSpec.ofChange alignKnownWrong)

/- THE SECOND FORM. 'bulk': how many values and letters a reading holds, each counted each time it is reached (what is shared counts as often as it is met; a slice's spare places count too). A statement '..UptoSaid' is the law's where the arguments, and the package variables that the reading takes, are together of bulk at most 1048576: NARROWER than '..Said'. Prove '..Said' where nothing that the law and all that it calls make is longer than what came in: it says more and counts as full. Else prove '..UptoSaid'. A law counts once. -/
mutual
def uptoBulk {H : Type} : DataW H → Nat
  | .lit (.string bytes) => bytes.length + 1
  | .lit _ => 1
  | .nil => 1
  | .ptr d => uptoBulk d + 1
  | .slice elems spare => uptoBulkAll elems + uptoBulkAll spare + 1
  | .agg parts => uptoBulkAll parts + 1
  | .iface _ d => uptoBulk d + 1
  | .map entries => uptoBulkEntries entries + 1
  | .held _ => 1
def uptoBulkAll {H : Type} : List (DataW H) → Nat
  | [] => 0
  | d :: r => uptoBulk d + uptoBulkAll r
def uptoBulkEntries {H : Type} : List (Lit × DataW H) → Nat
  | [] => 0
  | x :: r => uptoBulkEntry x + uptoBulkEntries r
def uptoBulkEntry {H : Type} : Lit × DataW H → Nat
  | (.string bytes, d) => bytes.length + uptoBulk d + 1
  | (_, d) => uptoBulk d + 1
 end
def uptoSmall : (H : Type) → List (DataW H) → Bool := fun _ ds => decide (uptoBulkAll ds ≤ 1048576)
def OpenSpec.upto (s : _root_.Go.ChangeSpec) : _root_.Go.OpenSpec := { _root_.Go.OpenSpec.ofChange s with cond := some uptoSmall }

/-- 'pianolalaw07.AlignGaps', WHERE WHAT IT READS IS OF BULK AT MOST 1048576: true; the input reads as it did. -/
def alignGapsUptoRow : OpenClaim := { program := "ytkocigldchiifaa", sum := "65ff39a553db83dff9dd6c73a7e0f653b1f6d36d4e3d203ed58a878790b5ae12", func := "pianola/pianolalaw07.AlignGaps", spec := "alignGaps", unfollowed := true, recurses := true, plainKeys := false, apart := false, narrowed := true }
def AlignGapsUptoSaid : Prop := alignGapsUptoRow.holds Try.pinned (OpenSpec.upto alignGapsSpec)

/-- 'pianolalaw07.AlignBarriers', WHERE WHAT IT READS IS OF BULK AT MOST 1048576: true; the input reads as it did. -/
def alignBarriersUptoRow : OpenClaim := { program := "ytkocigldchiifaa", sum := "65ff39a553db83dff9dd6c73a7e0f653b1f6d36d4e3d203ed58a878790b5ae12", func := "pianola/pianolalaw07.AlignBarriers", spec := "alignBarriers", unfollowed := true, recurses := true, plainKeys := false, apart := false, narrowed := true }
def AlignBarriersUptoSaid : Prop := alignBarriersUptoRow.holds Try.pinned (OpenSpec.upto alignBarriersSpec)

/-- 'pianolalaw07.AlignMetric', WHERE WHAT IT READS IS OF BULK AT MOST 1048576: true; the input reads as it did. -/
def alignMetricUptoRow : OpenClaim := { program := "ytkocigldchiifaa", sum := "65ff39a553db83dff9dd6c73a7e0f653b1f6d36d4e3d203ed58a878790b5ae12", func := "pianola/pianolalaw07.AlignMetric", spec := "alignMetric", unfollowed := true, recurses := true, plainKeys := false, apart := false, narrowed := true }
def AlignMetricUptoSaid : Prop := alignMetricUptoRow.holds Try.pinned (OpenSpec.upto alignMetricSpec)

/-- 'pianolalaw07.AlignRepeated', WHERE WHAT IT READS IS OF BULK AT MOST 1048576: true; the input reads as it did. -/
def alignRepeatedUptoRow : OpenClaim := { program := "ytkocigldchiifaa", sum := "65ff39a553db83dff9dd6c73a7e0f653b1f6d36d4e3d203ed58a878790b5ae12", func := "pianola/pianolalaw07.AlignRepeated", spec := "alignRepeated", unfollowed := true, recurses := true, plainKeys := false, apart := false, narrowed := true }
def AlignRepeatedUptoSaid : Prop := alignRepeatedUptoRow.holds Try.pinned (OpenSpec.upto alignRepeatedSpec)

/-- 'pianolalaw07.AlignChanged', WHERE WHAT IT READS IS OF BULK AT MOST 1048576: true; the input reads as it did. -/
def alignChangedUptoRow : OpenClaim := { program := "ytkocigldchiifaa", sum := "65ff39a553db83dff9dd6c73a7e0f653b1f6d36d4e3d203ed58a878790b5ae12", func := "pianola/pianolalaw07.AlignChanged", spec := "alignChanged", unfollowed := true, recurses := true, plainKeys := false, apart := false, narrowed := true }
def AlignChangedUptoSaid : Prop := alignChangedUptoRow.holds Try.pinned (OpenSpec.upto alignChangedSpec)

/-- 'pianolalaw07.AlignTurned', WHERE WHAT IT READS IS OF BULK AT MOST 1048576: true; the input reads as it did. -/
def alignTurnedUptoRow : OpenClaim := { program := "ytkocigldchiifaa", sum := "65ff39a553db83dff9dd6c73a7e0f653b1f6d36d4e3d203ed58a878790b5ae12", func := "pianola/pianolalaw07.AlignTurned", spec := "alignTurned", unfollowed := true, recurses := true, plainKeys := false, apart := false, narrowed := true }
def AlignTurnedUptoSaid : Prop := alignTurnedUptoRow.holds Try.pinned (OpenSpec.upto alignTurnedSpec)

/-- 'pianolalaw07.AlignFirst', WHERE WHAT IT READS IS OF BULK AT MOST 1048576: true; the input reads as it did. -/
def alignFirstUptoRow : OpenClaim := { program := "ytkocigldchiifaa", sum := "65ff39a553db83dff9dd6c73a7e0f653b1f6d36d4e3d203ed58a878790b5ae12", func := "pianola/pianolalaw07.AlignFirst", spec := "alignFirst", unfollowed := true, recurses := true, plainKeys := false, apart := false, narrowed := true }
def AlignFirstUptoSaid : Prop := alignFirstUptoRow.holds Try.pinned (OpenSpec.upto alignFirstSpec)

/-- 'pianolalaw07.AlignHeights', WHERE WHAT IT READS IS OF BULK AT MOST 1048576: true; the input reads as it did. -/
def alignHeightsUptoRow : OpenClaim := { program := "ytkocigldchiifaa", sum := "65ff39a553db83dff9dd6c73a7e0f653b1f6d36d4e3d203ed58a878790b5ae12", func := "pianola/pianolalaw07.AlignHeights", spec := "alignHeights", unfollowed := true, recurses := true, plainKeys := false, apart := false, narrowed := true }
def AlignHeightsUptoSaid : Prop := alignHeightsUptoRow.holds Try.pinned (OpenSpec.upto alignHeightsSpec)

/-- 'pianolalaw07.AlignEither', WHERE WHAT IT READS IS OF BULK AT MOST 1048576: true; the input reads as it did. -/
def alignEitherUptoRow : OpenClaim := { program := "ytkocigldchiifaa", sum := "65ff39a553db83dff9dd6c73a7e0f653b1f6d36d4e3d203ed58a878790b5ae12", func := "pianola/pianolalaw07.AlignEither", spec := "alignEither", unfollowed := true, recurses := true, plainKeys := false, apart := false, narrowed := true }
def AlignEitherUptoSaid : Prop := alignEitherUptoRow.holds Try.pinned (OpenSpec.upto alignEitherSpec)

/-- 'pianolalaw07.AlignProved', WHERE WHAT IT READS IS OF BULK AT MOST 1048576: true; the input reads as it did. -/
def alignProvedUptoRow : OpenClaim := { program := "ytkocigldchiifaa", sum := "65ff39a553db83dff9dd6c73a7e0f653b1f6d36d4e3d203ed58a878790b5ae12", func := "pianola/pianolalaw07.AlignProved", spec := "alignProved", unfollowed := true, recurses := true, plainKeys := false, apart := false, narrowed := true }
def AlignProvedUptoSaid : Prop := alignProvedUptoRow.holds Try.pinned (OpenSpec.upto alignProvedSpec)

/-- 'pianolalaw07.AlignKnown', WHERE WHAT IT READS IS OF BULK AT MOST 1048576: true; the input reads as it did. -/
def alignKnownUptoRow : OpenClaim := { program := "ytkocigldchiifaa", sum := "65ff39a553db83dff9dd6c73a7e0f653b1f6d36d4e3d203ed58a878790b5ae12", func := "pianola/pianolalaw07.AlignKnown", spec := "alignKnown", unfollowed := true, recurses := true, plainKeys := false, apart := false, narrowed := true }
def AlignKnownUptoSaid : Prop := alignKnownUptoRow.holds Try.pinned (OpenSpec.upto alignKnownSpec)

end Rows
end Go.Proofs.Ytkocigldchiifaa
