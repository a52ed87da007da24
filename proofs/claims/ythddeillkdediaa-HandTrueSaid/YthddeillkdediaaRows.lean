/-
  No cell of these rows narrows 'for every input' (looked for: loops, veiled, ifaces, maps, wideKeys, modest, calm, conditions, laid).
  DERIVED. THE GIVEN ROWS OF THIS SEAT. 11 by the template 'for every input the law returns true; each argument reads behind the call as it read before'; 0 by the template 'total and deterministic' (their statements: YthddeillkdediaaTotals.lean).
  GIVEN WITH THE SEED: the statements are not yours to turn. If you find one false, say at which input.
  Laid BY PROGRAM, IN A SANDBOX (cutbox-rows.mjs): the forced cells as the released guide's own fill.sh prints them over the translation ded280ef2bfc42de… (all of the seat's roots in one cut). By AI agents, Wed Nov 11 2026. No macro, syntax, notation, axiom, sorry.
-/
import Derived.Test.YthddeillkdediaaChecked
import GoSem.Claim
import GoSem.ClaimJoined
import GoSem.ClaimMapViews
import Derived.JoinedTies
import Derived.KernelRfl
namespace Go.Proofs.Ythddeillkdediaa
/- THE CELL 'sum', in the pinned program and in every row, IS THE sha256 OF THE DUMP (.gsa) THAT YthddeillkdediaaProg.lean LOADS. Nothing in Lean hashes anything: it is a label: what it is worth is what the hold of that sum in a sandbox is worth. -/
noncomputable def Try.pinned : Pinned := { name := "ythddeillkdediaa", sum := "ded280ef2bfc42de06bebf7f3fe70f5cb15e2af5c1d2c98017e6a6ee2077005a", checked := Try.checked }
namespace Rows
def none {H : Type} : Left H := { results := [], args := [] }

/-- 'pianolalaw10.HandRanks': WHATEVER THE INPUT: true; the input reads as it did. -/
def handRanksSpec : ChangeSpec := { name := "handRanks", fn := fun _ => fun
  | [d1, d2] => { results := [.lit (.bool true)], args := [d1, d2] }
  | _ => none }
def handRanksRow : OpenClaim := { program := "ythddeillkdediaa", sum := "ded280ef2bfc42de06bebf7f3fe70f5cb15e2af5c1d2c98017e6a6ee2077005a", func := "pianola/pianolalaw10.HandRanks", spec := "handRanks", unfollowed := true, recurses := true, plainKeys := false, apart := false }
def HandRanksSaid : Prop := handRanksRow.holds Try.pinned (OpenSpec.ofChange handRanksSpec)

/-- ITS FALSE NEIGHBOUR: 'it returns false'. Refute it at one input. -/
def handRanksWrong : ChangeSpec := { name := "handRanks", fn := fun _ => fun
  | [d1, d2] => { results := [.lit (.bool false)], args := [d1, d2] }
  | _ => none }
def HandRanksWrongFalsely : Prop := handRanksRow.holds Try.pinned (OpenSpec.ofChange handRanksWrong)

/-- 'pianolalaw10.HandChances': WHATEVER THE INPUT: true; the input reads as it did. -/
def handChancesSpec : ChangeSpec := { name := "handChances", fn := fun _ => fun
  | [d1, d2] => { results := [.lit (.bool true)], args := [d1, d2] }
  | _ => none }
def handChancesRow : OpenClaim := { program := "ythddeillkdediaa", sum := "ded280ef2bfc42de06bebf7f3fe70f5cb15e2af5c1d2c98017e6a6ee2077005a", func := "pianola/pianolalaw10.HandChances", spec := "handChances", unfollowed := true, recurses := true, plainKeys := false, apart := false }
def HandChancesSaid : Prop := handChancesRow.holds Try.pinned (OpenSpec.ofChange handChancesSpec)

/-- ITS FALSE NEIGHBOUR: 'it returns false'. Refute it at one input. -/
def handChancesWrong : ChangeSpec := { name := "handChances", fn := fun _ => fun
  | [d1, d2] => { results := [.lit (.bool false)], args := [d1, d2] }
  | _ => none }
def HandChancesWrongFalsely : Prop := handChancesRow.holds Try.pinned (OpenSpec.ofChange handChancesWrong)

/-- 'pianolalaw10.HandWithin': WHATEVER THE INPUT: true; the input reads as it did. -/
def handWithinSpec : ChangeSpec := { name := "handWithin", fn := fun _ => fun
  | [d1, d2] => { results := [.lit (.bool true)], args := [d1, d2] }
  | _ => none }
def handWithinRow : OpenClaim := { program := "ythddeillkdediaa", sum := "ded280ef2bfc42de06bebf7f3fe70f5cb15e2af5c1d2c98017e6a6ee2077005a", func := "pianola/pianolalaw10.HandWithin", spec := "handWithin", unfollowed := true, recurses := true, plainKeys := false, apart := false }
def HandWithinSaid : Prop := handWithinRow.holds Try.pinned (OpenSpec.ofChange handWithinSpec)

/-- ITS FALSE NEIGHBOUR: 'it returns false'. Refute it at one input. -/
def handWithinWrong : ChangeSpec := { name := "handWithin", fn := fun _ => fun
  | [d1, d2] => { results := [.lit (.bool false)], args := [d1, d2] }
  | _ => none }
def HandWithinWrongFalsely : Prop := handWithinRow.holds Try.pinned (OpenSpec.ofChange handWithinWrong)

/-- 'pianolalaw10.HandJudges': WHATEVER THE INPUT: true; the input reads as it did. -/
def handJudgesSpec : ChangeSpec := { name := "handJudges", fn := fun _ => fun
  | [d1, d2, d3] => { results := [.lit (.bool true)], args := [d1, d2, d3] }
  | _ => none }
def handJudgesRow : OpenClaim := { program := "ythddeillkdediaa", sum := "ded280ef2bfc42de06bebf7f3fe70f5cb15e2af5c1d2c98017e6a6ee2077005a", func := "pianola/pianolalaw10.HandJudges", spec := "handJudges", unfollowed := true, recurses := true, plainKeys := false, apart := false }
def HandJudgesSaid : Prop := handJudgesRow.holds Try.pinned (OpenSpec.ofChange handJudgesSpec)

/-- ITS FALSE NEIGHBOUR: 'it returns false'. Refute it at one input. -/
def handJudgesWrong : ChangeSpec := { name := "handJudges", fn := fun _ => fun
  | [d1, d2, d3] => { results := [.lit (.bool false)], args := [d1, d2, d3] }
  | _ => none }
def HandJudgesWrongFalsely : Prop := handJudgesRow.holds Try.pinned (OpenSpec.ofChange handJudgesWrong)

/-- 'pianolalaw10.HandAll': WHATEVER THE INPUT: true; the input reads as it did. -/
def handAllSpec : ChangeSpec := { name := "handAll", fn := fun _ => fun
  | [d] => { results := [.lit (.bool true)], args := [d] }
  | _ => none }
def handAllRow : OpenClaim := { program := "ythddeillkdediaa", sum := "ded280ef2bfc42de06bebf7f3fe70f5cb15e2af5c1d2c98017e6a6ee2077005a", func := "pianola/pianolalaw10.HandAll", spec := "handAll", unfollowed := true, recurses := true, plainKeys := false, apart := false }
def HandAllSaid : Prop := handAllRow.holds Try.pinned (OpenSpec.ofChange handAllSpec)

/-- ITS FALSE NEIGHBOUR: 'it returns false'. Refute it at one input. -/
def handAllWrong : ChangeSpec := { name := "handAll", fn := fun _ => fun
  | [d] => { results := [.lit (.bool false)], args := [d] }
  | _ => none }
def HandAllWrongFalsely : Prop := handAllRow.holds Try.pinned (OpenSpec.ofChange handAllWrong)

/-- 'pianolalaw10.HandSwaps': WHATEVER THE INPUT: true; the input reads as it did. -/
def handSwapsSpec : ChangeSpec := { name := "handSwaps", fn := fun _ => fun
  | [d1, d2] => { results := [.lit (.bool true)], args := [d1, d2] }
  | _ => none }
def handSwapsRow : OpenClaim := { program := "ythddeillkdediaa", sum := "ded280ef2bfc42de06bebf7f3fe70f5cb15e2af5c1d2c98017e6a6ee2077005a", func := "pianola/pianolalaw10.HandSwaps", spec := "handSwaps", unfollowed := true, recurses := true, plainKeys := false, apart := false }
def HandSwapsSaid : Prop := handSwapsRow.holds Try.pinned (OpenSpec.ofChange handSwapsSpec)

/-- ITS FALSE NEIGHBOUR: 'it returns false'. Refute it at one input. -/
def handSwapsWrong : ChangeSpec := { name := "handSwaps", fn := fun _ => fun
  | [d1, d2] => { results := [.lit (.bool false)], args := [d1, d2] }
  | _ => none }
def HandSwapsWrongFalsely : Prop := handSwapsRow.holds Try.pinned (OpenSpec.ofChange handSwapsWrong)

/-- 'pianolalaw10.HandLevel': WHATEVER THE INPUT: true; the input reads as it did. -/
def handLevelSpec : ChangeSpec := { name := "handLevel", fn := fun _ => fun
  | [d1, d2] => { results := [.lit (.bool true)], args := [d1, d2] }
  | _ => none }
def handLevelRow : OpenClaim := { program := "ythddeillkdediaa", sum := "ded280ef2bfc42de06bebf7f3fe70f5cb15e2af5c1d2c98017e6a6ee2077005a", func := "pianola/pianolalaw10.HandLevel", spec := "handLevel", unfollowed := true, recurses := true, plainKeys := false, apart := false }
def HandLevelSaid : Prop := handLevelRow.holds Try.pinned (OpenSpec.ofChange handLevelSpec)

/-- ITS FALSE NEIGHBOUR: 'it returns false'. Refute it at one input. -/
def handLevelWrong : ChangeSpec := { name := "handLevel", fn := fun _ => fun
  | [d1, d2] => { results := [.lit (.bool false)], args := [d1, d2] }
  | _ => none }
def HandLevelWrongFalsely : Prop := handLevelRow.holds Try.pinned (OpenSpec.ofChange handLevelWrong)

/-- 'pianolalaw10.HandExchanged': WHATEVER THE INPUT: true; the input reads as it did. -/
def handExchangedSpec : ChangeSpec := { name := "handExchanged", fn := fun _ => fun
  | [d1, d2, d3, d4] => { results := [.lit (.bool true)], args := [d1, d2, d3, d4] }
  | _ => none }
def handExchangedRow : OpenClaim := { program := "ythddeillkdediaa", sum := "ded280ef2bfc42de06bebf7f3fe70f5cb15e2af5c1d2c98017e6a6ee2077005a", func := "pianola/pianolalaw10.HandExchanged", spec := "handExchanged", unfollowed := true, recurses := true, plainKeys := false, apart := false }
def HandExchangedSaid : Prop := handExchangedRow.holds Try.pinned (OpenSpec.ofChange handExchangedSpec)

/-- ITS FALSE NEIGHBOUR: 'it returns false'. Refute it at one input. -/
def handExchangedWrong : ChangeSpec := { name := "handExchanged", fn := fun _ => fun
  | [d1, d2, d3, d4] => { results := [.lit (.bool false)], args := [d1, d2, d3, d4] }
  | _ => none }
def HandExchangedWrongFalsely : Prop := handExchangedRow.holds Try.pinned (OpenSpec.ofChange handExchangedWrong)

/-- 'pianolalaw10.HandFarthest': WHATEVER THE INPUT: true; the input reads as it did. -/
def handFarthestSpec : ChangeSpec := { name := "handFarthest", fn := fun _ => fun
  | [d1, d2, d3] => { results := [.lit (.bool true)], args := [d1, d2, d3] }
  | _ => none }
def handFarthestRow : OpenClaim := { program := "ythddeillkdediaa", sum := "ded280ef2bfc42de06bebf7f3fe70f5cb15e2af5c1d2c98017e6a6ee2077005a", func := "pianola/pianolalaw10.HandFarthest", spec := "handFarthest", unfollowed := true, recurses := true, plainKeys := false, apart := false }
def HandFarthestSaid : Prop := handFarthestRow.holds Try.pinned (OpenSpec.ofChange handFarthestSpec)

/-- ITS FALSE NEIGHBOUR: 'it returns false'. Refute it at one input. -/
def handFarthestWrong : ChangeSpec := { name := "handFarthest", fn := fun _ => fun
  | [d1, d2, d3] => { results := [.lit (.bool false)], args := [d1, d2, d3] }
  | _ => none }
def HandFarthestWrongFalsely : Prop := handFarthestRow.holds Try.pinned (OpenSpec.ofChange handFarthestWrong)

/-- 'pianolalaw10.HandTrue': WHATEVER THE INPUT: true; the input reads as it did. -/
def handTrueSpec : ChangeSpec := { name := "handTrue", fn := fun _ => fun
  | [d1, d2, d3] => { results := [.lit (.bool true)], args := [d1, d2, d3] }
  | _ => none }
def handTrueRow : OpenClaim := { program := "ythddeillkdediaa", sum := "ded280ef2bfc42de06bebf7f3fe70f5cb15e2af5c1d2c98017e6a6ee2077005a", func := "pianola/pianolalaw10.HandTrue", spec := "handTrue", unfollowed := true, recurses := true, plainKeys := false, apart := false }
def HandTrueSaid : Prop := handTrueRow.holds Try.pinned (OpenSpec.ofChange handTrueSpec)

/-- ITS FALSE NEIGHBOUR: 'it returns false'. Refute it at one input. -/
def handTrueWrong : ChangeSpec := { name := "handTrue", fn := fun _ => fun
  | [d1, d2, d3] => { results := [.lit (.bool false)], args := [d1, d2, d3] }
  | _ => none }
def HandTrueWrongFalsely : Prop := handTrueRow.holds Try.pinned (OpenSpec.ofChange handTrueWrong)

/-- 'pianolalaw10.HandKnown': WHATEVER THE INPUT: true; the input reads as it did. -/
def handKnownSpec : ChangeSpec := { name := "handKnown", fn := fun _ => fun
  | [] => { results := [.lit (.bool true)], args := [] }
  | _ => none }
def handKnownRow : OpenClaim := { program := "ythddeillkdediaa", sum := "ded280ef2bfc42de06bebf7f3fe70f5cb15e2af5c1d2c98017e6a6ee2077005a", func := "pianola/pianolalaw10.HandKnown", spec := "handKnown", unfollowed := true, recurses := true, plainKeys := false, apart := false }
def HandKnownSaid : Prop := handKnownRow.holds Try.pinned (OpenSpec.ofChange handKnownSpec)

/-- ITS FALSE NEIGHBOUR: 'it returns false'. Refute it at one input. -/
def handKnownWrong : ChangeSpec := { name := "handKnown", fn := fun _ => fun
  | [] => { results := [.lit (.bool false)], args := [] }
  | _ => none }
def HandKnownWrongFalsely : Prop := handKnownRow.holds Try.pinned (OpenSpec.ofChange handKnownWrong)

/- THE SECOND FORM. 'bulk': how many values and letters a reading holds, each counted each time it is reached (what is shared counts as often as it is met; a slice's spare places count too). A statement '..UptoSaid' is the law's where the arguments, and the package variables that the reading takes, are together of bulk at most 1048576: NARROWER than '..Said'. Prove '..Said' where nothing that the law and all that it calls make is longer than what came in: it says more and counts as full. Else prove '..UptoSaid'. A law counts once. -/
mutual
def uptoBulk {H : Type} : DataW H → Nat
  | .lit (.string bytes) => bytes.length + 1
  | .lit _ => 1
  | .nil => 1
  | .ptr d => uptoBulk d + 1
  | .slice elems spare => uptoBulkAll elems + uptoBulkAll spare + 1
  | .agg parts => uptoBulkAll parts + 1
  | .iface _ d => uptoBulk d + 1
  | .map entries => uptoBulkEntries entries + 1
  | .held _ => 1
def uptoBulkAll {H : Type} : List (DataW H) → Nat
  | [] => 0
  | d :: r => uptoBulk d + uptoBulkAll r
def uptoBulkEntries {H : Type} : List (Lit × DataW H) → Nat
  | [] => 0
  | x :: r => uptoBulkEntry x + uptoBulkEntries r
def uptoBulkEntry {H : Type} : Lit × DataW H → Nat
  | (.string bytes, d) => bytes.length + uptoBulk d + 1
  | (_, d) => uptoBulk d + 1
 end
def uptoSmall : (H : Type) → List (DataW H) → Bool := fun _ ds => decide (uptoBulkAll ds ≤ 1048576)
def OpenSpec.upto (s : _root_.Go.ChangeSpec) : _root_.Go.OpenSpec := { _root_.Go.OpenSpec.ofChange s with cond := some uptoSmall }

/-- 'pianolalaw10.HandRanks', WHERE WHAT IT READS IS OF BULK AT MOST 1048576: true; the input reads as it did. -/
def handRanksUptoRow : OpenClaim := { program := "ythddeillkdediaa", sum := "ded280ef2bfc42de06bebf7f3fe70f5cb15e2af5c1d2c98017e6a6ee2077005a", func := "pianola/pianolalaw10.HandRanks", spec := "handRanks", unfollowed := true, recurses := true, plainKeys := false, apart := false, narrowed := true }
def HandRanksUptoSaid : Prop := handRanksUptoRow.holds Try.pinned (OpenSpec.upto handRanksSpec)

/-- 'pianolalaw10.HandChances', WHERE WHAT IT READS IS OF BULK AT MOST 1048576: true; the input reads as it did. -/
def handChancesUptoRow : OpenClaim := { program := "ythddeillkdediaa", sum := "ded280ef2bfc42de06bebf7f3fe70f5cb15e2af5c1d2c98017e6a6ee2077005a", func := "pianola/pianolalaw10.HandChances", spec := "handChances", unfollowed := true, recurses := true, plainKeys := false, apart := false, narrowed := true }
def HandChancesUptoSaid : Prop := handChancesUptoRow.holds Try.pinned (OpenSpec.upto handChancesSpec)

/-- 'pianolalaw10.HandWithin', WHERE WHAT IT READS IS OF BULK AT MOST 1048576: true; the input reads as it did. -/
def handWithinUptoRow : OpenClaim := { program := "ythddeillkdediaa", sum := "ded280ef2bfc42de06bebf7f3fe70f5cb15e2af5c1d2c98017e6a6ee2077005a", func := "pianola/pianolalaw10.HandWithin", spec := "handWithin", unfollowed := true, recurses := true, plainKeys := false, apart := false, narrowed := true }
def HandWithinUptoSaid : Prop := handWithinUptoRow.holds Try.pinned (OpenSpec.upto handWithinSpec)

/-- 'pianolalaw10.HandJudges', WHERE WHAT IT READS IS OF BULK AT MOST 1048576: true; the input reads as it did. -/
def handJudgesUptoRow : OpenClaim := { program := "ythddeillkdediaa", sum := "ded280ef2bfc42de06bebf7f3fe70f5cb15e2af5c1d2c98017e6a6ee2077005a", func := "pianola/pianolalaw10.HandJudges", spec := "handJudges", unfollowed := true, recurses := true, plainKeys := false, apart := false, narrowed := true }
def HandJudgesUptoSaid : Prop := handJudgesUptoRow.holds Try.pinned (OpenSpec.upto handJudgesSpec)

/-- 'pianolalaw10.HandAll', WHERE WHAT IT READS IS OF BULK AT MOST 1048576: true; the input reads as it did. -/
def handAllUptoRow : OpenClaim := { program := "ythddeillkdediaa", sum := "ded280ef2bfc42de06bebf7f3fe70f5cb15e2af5c1d2c98017e6a6ee2077005a", func := "pianola/pianolalaw10.HandAll", spec := "handAll", unfollowed := true, recurses := true, plainKeys := false, apart := false, narrowed := true }
def HandAllUptoSaid : Prop := handAllUptoRow.holds Try.pinned (OpenSpec.upto handAllSpec)

/-- 'pianolalaw10.HandSwaps', WHERE WHAT IT READS IS OF BULK AT MOST 1048576: true; the input reads as it did. -/
def handSwapsUptoRow : OpenClaim := { program := "ythddeillkdediaa", sum := "ded280ef2bfc42de06bebf7f3fe70f5cb15e2af5c1d2c98017e6a6ee2077005a", func := "pianola/pianolalaw10.HandSwaps", spec := "handSwaps", unfollowed := true, recurses := true, plainKeys := false, apart := false, narrowed := true }
def HandSwapsUptoSaid : Prop := handSwapsUptoRow.holds Try.pinned (OpenSpec.upto handSwapsSpec)

/-- 'pianolalaw10.HandLevel', WHERE WHAT IT READS IS OF BULK AT MOST 1048576: true; the input reads as it did. -/
def handLevelUptoRow : OpenClaim := { program := "ythddeillkdediaa", sum := "ded280ef2bfc42de06bebf7f3fe70f5cb15e2af5c1d2c98017e6a6ee2077005a", func := "pianola/pianolalaw10.HandLevel", spec := "handLevel", unfollowed := true, recurses := true, plainKeys := false, apart := false, narrowed := true }
def HandLevelUptoSaid : Prop := handLevelUptoRow.holds Try.pinned (OpenSpec.upto handLevelSpec)

/-- 'pianolalaw10.HandExchanged', WHERE WHAT IT READS IS OF BULK AT MOST 1048576: true; the input reads as it did. -/
def handExchangedUptoRow : OpenClaim := { program := "ythddeillkdediaa", sum := "ded280ef2bfc42de06bebf7f3fe70f5cb15e2af5c1d2c98017e6a6ee2077005a", func := "pianola/pianolalaw10.HandExchanged", spec := "handExchanged", unfollowed := true, recurses := true, plainKeys := false, apart := false, narrowed := true }
def HandExchangedUptoSaid : Prop := handExchangedUptoRow.holds Try.pinned (OpenSpec.upto handExchangedSpec)

/-- 'pianolalaw10.HandFarthest', WHERE WHAT IT READS IS OF BULK AT MOST 1048576: true; the input reads as it did. -/
def handFarthestUptoRow : OpenClaim := { program := "ythddeillkdediaa", sum := "ded280ef2bfc42de06bebf7f3fe70f5cb15e2af5c1d2c98017e6a6ee2077005a", func := "pianola/pianolalaw10.HandFarthest", spec := "handFarthest", unfollowed := true, recurses := true, plainKeys := false, apart := false, narrowed := true }
def HandFarthestUptoSaid : Prop := handFarthestUptoRow.holds Try.pinned (OpenSpec.upto handFarthestSpec)

/-- 'pianolalaw10.HandTrue', WHERE WHAT IT READS IS OF BULK AT MOST 1048576: true; the input reads as it did. -/
def handTrueUptoRow : OpenClaim := { program := "ythddeillkdediaa", sum := "ded280ef2bfc42de06bebf7f3fe70f5cb15e2af5c1d2c98017e6a6ee2077005a", func := "pianola/pianolalaw10.HandTrue", spec := "handTrue", unfollowed := true, recurses := true, plainKeys := false, apart := false, narrowed := true }
def HandTrueUptoSaid : Prop := handTrueUptoRow.holds Try.pinned (OpenSpec.upto handTrueSpec)

/-- 'pianolalaw10.HandKnown', WHERE WHAT IT READS IS OF BULK AT MOST 1048576: true; the input reads as it did. -/
def handKnownUptoRow : OpenClaim := { program := "ythddeillkdediaa", sum := "ded280ef2bfc42de06bebf7f3fe70f5cb15e2af5c1d2c98017e6a6ee2077005a", func := "pianola/pianolalaw10.HandKnown", spec := "handKnown", unfollowed := true, recurses := true, plainKeys := false, apart := false, narrowed := true }
def HandKnownUptoSaid : Prop := handKnownUptoRow.holds Try.pinned (OpenSpec.upto handKnownSpec)

end Rows
end Go.Proofs.Ythddeillkdediaa
