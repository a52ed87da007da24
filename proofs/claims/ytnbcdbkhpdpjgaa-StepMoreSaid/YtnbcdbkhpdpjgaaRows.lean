/-
  No cell of these rows narrows 'for every input' (looked for: loops, veiled, ifaces, maps, wideKeys, modest, calm, conditions, laid).
  DERIVED. THE GIVEN ROWS OF THIS SEAT. 11 by the template 'for every input the law returns true; each argument reads behind the call as it read before'; 0 by the template 'total and deterministic' (their statements: YtnbcdbkhpdpjgaaTotals.lean).
  GIVEN WITH THE SEED: the statements are not yours to turn. If you find one false, say at which input.
  Laid BY PROGRAM, IN A SANDBOX (cutbox-rows.mjs): the forced cells as the released guide's own fill.sh prints them over the translation e8156006fe03d2ef… (all of the seat's roots in one cut). By AI agents, Wed Nov 11 2026. No macro, syntax, notation, axiom, sorry.
-/
import Derived.Test.YtnbcdbkhpdpjgaaChecked
import GoSem.Claim
import GoSem.ClaimJoined
import GoSem.ClaimMapViews
import Derived.JoinedTies
import Derived.KernelRfl
namespace Go.Proofs.Ytnbcdbkhpdpjgaa
/- THE CELL 'sum', in the pinned program and in every row, IS THE sha256 OF THE DUMP (.gsa) THAT YtnbcdbkhpdpjgaaProg.lean LOADS. Nothing in Lean hashes anything: it is a label: what it is worth is what the hold of that sum in a sandbox is worth. -/
noncomputable def Try.pinned : Pinned := { name := "ytnbcdbkhpdpjgaa", sum := "e8156006fe03d2ef03484f4097a187e05005fcc351fc44fcf13e7ae811b9356e", checked := Try.checked }
namespace Rows
def none {H : Type} : Left H := { results := [], args := [] }

/-- 'pianolalaw01.StepSheets': WHATEVER THE INPUT: true; the input reads as it did. -/
def stepSheetsSpec : ChangeSpec := { name := "stepSheets", fn := fun _ => fun
  | [d1, d2] => { results := [.lit (.bool true)], args := [d1, d2] }
  | _ => none }
def stepSheetsRow : OpenClaim := { program := "ytnbcdbkhpdpjgaa", sum := "e8156006fe03d2ef03484f4097a187e05005fcc351fc44fcf13e7ae811b9356e", func := "pianola/pianolalaw01.StepSheets", spec := "stepSheets", unfollowed := true, recurses := true, apart := false }
def StepSheetsSaid : Prop := stepSheetsRow.holds Try.pinned (OpenSpec.ofChange stepSheetsSpec)

/-- ITS FALSE NEIGHBOUR: 'it returns false'. Refute it at one input. -/
def stepSheetsWrong : ChangeSpec := { name := "stepSheets", fn := fun _ => fun
  | [d1, d2] => { results := [.lit (.bool false)], args := [d1, d2] }
  | _ => none }
def StepSheetsWrongFalsely : Prop := stepSheetsRow.holds Try.pinned (OpenSpec.ofChange stepSheetsWrong)

/-- 'pianolalaw01.StepOffsets': WHATEVER THE INPUT: true; the input reads as it did. -/
def stepOffsetsSpec : ChangeSpec := { name := "stepOffsets", fn := fun _ => fun
  | [d1, d2, d3, d4] => { results := [.lit (.bool true)], args := [d1, d2, d3, d4] }
  | _ => none }
def stepOffsetsRow : OpenClaim := { program := "ytnbcdbkhpdpjgaa", sum := "e8156006fe03d2ef03484f4097a187e05005fcc351fc44fcf13e7ae811b9356e", func := "pianola/pianolalaw01.StepOffsets", spec := "stepOffsets", unfollowed := true, recurses := true, apart := false }
def StepOffsetsSaid : Prop := stepOffsetsRow.holds Try.pinned (OpenSpec.ofChange stepOffsetsSpec)

/-- ITS FALSE NEIGHBOUR: 'it returns false'. Refute it at one input. -/
def stepOffsetsWrong : ChangeSpec := { name := "stepOffsets", fn := fun _ => fun
  | [d1, d2, d3, d4] => { results := [.lit (.bool false)], args := [d1, d2, d3, d4] }
  | _ => none }
def StepOffsetsWrongFalsely : Prop := stepOffsetsRow.holds Try.pinned (OpenSpec.ofChange stepOffsetsWrong)

/-- 'pianolalaw01.StepSteps': WHATEVER THE INPUT: true; the input reads as it did. -/
def stepStepsSpec : ChangeSpec := { name := "stepSteps", fn := fun _ => fun
  | [d1, d2] => { results := [.lit (.bool true)], args := [d1, d2] }
  | _ => none }
def stepStepsRow : OpenClaim := { program := "ytnbcdbkhpdpjgaa", sum := "e8156006fe03d2ef03484f4097a187e05005fcc351fc44fcf13e7ae811b9356e", func := "pianola/pianolalaw01.StepSteps", spec := "stepSteps", unfollowed := true, recurses := true, apart := false }
def StepStepsSaid : Prop := stepStepsRow.holds Try.pinned (OpenSpec.ofChange stepStepsSpec)

/-- ITS FALSE NEIGHBOUR: 'it returns false'. Refute it at one input. -/
def stepStepsWrong : ChangeSpec := { name := "stepSteps", fn := fun _ => fun
  | [d1, d2] => { results := [.lit (.bool false)], args := [d1, d2] }
  | _ => none }
def StepStepsWrongFalsely : Prop := stepStepsRow.holds Try.pinned (OpenSpec.ofChange stepStepsWrong)

/-- 'pianolalaw01.StepClashes': WHATEVER THE INPUT: true; the input reads as it did. -/
def stepClashesSpec : ChangeSpec := { name := "stepClashes", fn := fun _ => fun
  | [d1, d2, d3, d4] => { results := [.lit (.bool true)], args := [d1, d2, d3, d4] }
  | _ => none }
def stepClashesRow : OpenClaim := { program := "ytnbcdbkhpdpjgaa", sum := "e8156006fe03d2ef03484f4097a187e05005fcc351fc44fcf13e7ae811b9356e", func := "pianola/pianolalaw01.StepClashes", spec := "stepClashes", unfollowed := true, recurses := true, apart := false }
def StepClashesSaid : Prop := stepClashesRow.holds Try.pinned (OpenSpec.ofChange stepClashesSpec)

/-- ITS FALSE NEIGHBOUR: 'it returns false'. Refute it at one input. -/
def stepClashesWrong : ChangeSpec := { name := "stepClashes", fn := fun _ => fun
  | [d1, d2, d3, d4] => { results := [.lit (.bool false)], args := [d1, d2, d3, d4] }
  | _ => none }
def StepClashesWrongFalsely : Prop := stepClashesRow.holds Try.pinned (OpenSpec.ofChange stepClashesWrong)

/-- 'pianolalaw01.StepTruth': WHATEVER THE INPUT: true; the input reads as it did. -/
def stepTruthSpec : ChangeSpec := { name := "stepTruth", fn := fun _ => fun
  | [d1, d2, d3] => { results := [.lit (.bool true)], args := [d1, d2, d3] }
  | _ => none }
def stepTruthRow : OpenClaim := { program := "ytnbcdbkhpdpjgaa", sum := "e8156006fe03d2ef03484f4097a187e05005fcc351fc44fcf13e7ae811b9356e", func := "pianola/pianolalaw01.StepTruth", spec := "stepTruth", unfollowed := true, recurses := true, apart := false }
def StepTruthSaid : Prop := stepTruthRow.holds Try.pinned (OpenSpec.ofChange stepTruthSpec)

/-- ITS FALSE NEIGHBOUR: 'it returns false'. Refute it at one input. -/
def stepTruthWrong : ChangeSpec := { name := "stepTruth", fn := fun _ => fun
  | [d1, d2, d3] => { results := [.lit (.bool false)], args := [d1, d2, d3] }
  | _ => none }
def StepTruthWrongFalsely : Prop := stepTruthRow.holds Try.pinned (OpenSpec.ofChange stepTruthWrong)

/-- 'pianolalaw01.StepExact': WHATEVER THE INPUT: true; the input reads as it did. -/
def stepExactSpec : ChangeSpec := { name := "stepExact", fn := fun _ => fun
  | [d1, d2, d3] => { results := [.lit (.bool true)], args := [d1, d2, d3] }
  | _ => none }
def stepExactRow : OpenClaim := { program := "ytnbcdbkhpdpjgaa", sum := "e8156006fe03d2ef03484f4097a187e05005fcc351fc44fcf13e7ae811b9356e", func := "pianola/pianolalaw01.StepExact", spec := "stepExact", unfollowed := true, recurses := true, apart := false }
def StepExactSaid : Prop := stepExactRow.holds Try.pinned (OpenSpec.ofChange stepExactSpec)

/-- ITS FALSE NEIGHBOUR: 'it returns false'. Refute it at one input. -/
def stepExactWrong : ChangeSpec := { name := "stepExact", fn := fun _ => fun
  | [d1, d2, d3] => { results := [.lit (.bool false)], args := [d1, d2, d3] }
  | _ => none }
def StepExactWrongFalsely : Prop := stepExactRow.holds Try.pinned (OpenSpec.ofChange stepExactWrong)

/-- 'pianolalaw01.StepFewest': WHATEVER THE INPUT: true; the input reads as it did. -/
def stepFewestSpec : ChangeSpec := { name := "stepFewest", fn := fun _ => fun
  | [d1, d2, d3] => { results := [.lit (.bool true)], args := [d1, d2, d3] }
  | _ => none }
def stepFewestRow : OpenClaim := { program := "ytnbcdbkhpdpjgaa", sum := "e8156006fe03d2ef03484f4097a187e05005fcc351fc44fcf13e7ae811b9356e", func := "pianola/pianolalaw01.StepFewest", spec := "stepFewest", unfollowed := true, recurses := true, apart := false }
def StepFewestSaid : Prop := stepFewestRow.holds Try.pinned (OpenSpec.ofChange stepFewestSpec)

/-- ITS FALSE NEIGHBOUR: 'it returns false'. Refute it at one input. -/
def stepFewestWrong : ChangeSpec := { name := "stepFewest", fn := fun _ => fun
  | [d1, d2, d3] => { results := [.lit (.bool false)], args := [d1, d2, d3] }
  | _ => none }
def StepFewestWrongFalsely : Prop := stepFewestRow.holds Try.pinned (OpenSpec.ofChange stepFewestWrong)

/-- 'pianolalaw01.StepDivisors': WHATEVER THE INPUT: true; the input reads as it did. -/
def stepDivisorsSpec : ChangeSpec := { name := "stepDivisors", fn := fun _ => fun
  | [d1, d2, d3] => { results := [.lit (.bool true)], args := [d1, d2, d3] }
  | _ => none }
def stepDivisorsRow : OpenClaim := { program := "ytnbcdbkhpdpjgaa", sum := "e8156006fe03d2ef03484f4097a187e05005fcc351fc44fcf13e7ae811b9356e", func := "pianola/pianolalaw01.StepDivisors", spec := "stepDivisors", unfollowed := true, recurses := true, apart := false }
def StepDivisorsSaid : Prop := stepDivisorsRow.holds Try.pinned (OpenSpec.ofChange stepDivisorsSpec)

/-- ITS FALSE NEIGHBOUR: 'it returns false'. Refute it at one input. -/
def stepDivisorsWrong : ChangeSpec := { name := "stepDivisors", fn := fun _ => fun
  | [d1, d2, d3] => { results := [.lit (.bool false)], args := [d1, d2, d3] }
  | _ => none }
def StepDivisorsWrongFalsely : Prop := stepDivisorsRow.holds Try.pinned (OpenSpec.ofChange stepDivisorsWrong)

/-- 'pianolalaw01.StepMore': WHATEVER THE INPUT: true; the input reads as it did. -/
def stepMoreSpec : ChangeSpec := { name := "stepMore", fn := fun _ => fun
  | [d1, d2, d3] => { results := [.lit (.bool true)], args := [d1, d2, d3] }
  | _ => none }
def stepMoreRow : OpenClaim := { program := "ytnbcdbkhpdpjgaa", sum := "e8156006fe03d2ef03484f4097a187e05005fcc351fc44fcf13e7ae811b9356e", func := "pianola/pianolalaw01.StepMore", spec := "stepMore", unfollowed := true, recurses := true, apart := false }
def StepMoreSaid : Prop := stepMoreRow.holds Try.pinned (OpenSpec.ofChange stepMoreSpec)

/-- ITS FALSE NEIGHBOUR: 'it returns false'. Refute it at one input. -/
def stepMoreWrong : ChangeSpec := { name := "stepMore", fn := fun _ => fun
  | [d1, d2, d3] => { results := [.lit (.bool false)], args := [d1, d2, d3] }
  | _ => none }
def StepMoreWrongFalsely : Prop := stepMoreRow.holds Try.pinned (OpenSpec.ofChange stepMoreWrong)

/-- 'pianolalaw01.StepShifts': WHATEVER THE INPUT: true; the input reads as it did. -/
def stepShiftsSpec : ChangeSpec := { name := "stepShifts", fn := fun _ => fun
  | [d1, d2, d3] => { results := [.lit (.bool true)], args := [d1, d2, d3] }
  | _ => none }
def stepShiftsRow : OpenClaim := { program := "ytnbcdbkhpdpjgaa", sum := "e8156006fe03d2ef03484f4097a187e05005fcc351fc44fcf13e7ae811b9356e", func := "pianola/pianolalaw01.StepShifts", spec := "stepShifts", unfollowed := true, recurses := true, apart := false }
def StepShiftsSaid : Prop := stepShiftsRow.holds Try.pinned (OpenSpec.ofChange stepShiftsSpec)

/-- ITS FALSE NEIGHBOUR: 'it returns false'. Refute it at one input. -/
def stepShiftsWrong : ChangeSpec := { name := "stepShifts", fn := fun _ => fun
  | [d1, d2, d3] => { results := [.lit (.bool false)], args := [d1, d2, d3] }
  | _ => none }
def StepShiftsWrongFalsely : Prop := stepShiftsRow.holds Try.pinned (OpenSpec.ofChange stepShiftsWrong)

/-- 'pianolalaw01.StepKnown': WHATEVER THE INPUT: true; the input reads as it did. -/
def stepKnownSpec : ChangeSpec := { name := "stepKnown", fn := fun _ => fun
  | [] => { results := [.lit (.bool true)], args := [] }
  | _ => none }
def stepKnownRow : OpenClaim := { program := "ytnbcdbkhpdpjgaa", sum := "e8156006fe03d2ef03484f4097a187e05005fcc351fc44fcf13e7ae811b9356e", func := "pianola/pianolalaw01.StepKnown", spec := "stepKnown", unfollowed := true, recurses := true, apart := false }
def StepKnownSaid : Prop := stepKnownRow.holds Try.pinned (OpenSpec.ofChange stepKnownSpec)

/-- ITS FALSE NEIGHBOUR: 'it returns false'. Refute it at one input. -/
def stepKnownWrong : ChangeSpec := { name := "stepKnown", fn := fun _ => fun
  | [] => { results := [.lit (.bool false)], args := [] }
  | _ => none }
def StepKnownWrongFalsely : Prop := stepKnownRow.holds Try.pinned (OpenSpec.ofChange stepKnownWrong)

/- THE SECOND FORM. 'bulk': how many values and letters a reading holds, each counted each time it is reached (what is shared counts as often as it is met; a slice's spare places count too). A statement '..UptoSaid' is the law's where the arguments, and the package variables that the reading takes, are together of bulk at most 1048576: NARROWER than '..Said'. Prove '..Said' where nothing that the law and all that it calls make is longer than what came in: it says more and counts as full. Else prove '..UptoSaid'. A law counts once. -/
mutual
def uptoBulk {H : Type} : DataW H → Nat
  | .lit (.string bytes) => bytes.length + 1
  | .lit _ => 1
  | .nil => 1
  | .ptr d => uptoBulk d + 1
  | .slice elems spare => uptoBulkAll elems + uptoBulkAll spare + 1
  | .agg parts => uptoBulkAll parts + 1
  | .iface _ d => uptoBulk d + 1
  | .map entries => uptoBulkEntries entries + 1
  | .held _ => 1
def uptoBulkAll {H : Type} : List (DataW H) → Nat
  | [] => 0
  | d :: r => uptoBulk d + uptoBulkAll r
def uptoBulkEntries {H : Type} : List (Lit × DataW H) → Nat
  | [] => 0
  | x :: r => uptoBulkEntry x + uptoBulkEntries r
def uptoBulkEntry {H : Type} : Lit × DataW H → Nat
  | (.string bytes, d) => bytes.length + uptoBulk d + 1
  | (_, d) => uptoBulk d + 1
 end
def uptoSmall : (H : Type) → List (DataW H) → Bool := fun _ ds => decide (uptoBulkAll ds ≤ 1048576)
def OpenSpec.upto (s : _root_.Go.ChangeSpec) : _root_.Go.OpenSpec := { _root_.Go.OpenSpec.ofChange s with cond := some uptoSmall }

/-- 'pianolalaw01.StepSheets', WHERE WHAT IT READS IS OF BULK AT MOST 1048576: true; the input reads as it did. -/
def stepSheetsUptoRow : OpenClaim := { program := "ytnbcdbkhpdpjgaa", sum := "e8156006fe03d2ef03484f4097a187e05005fcc351fc44fcf13e7ae811b9356e", func := "pianola/pianolalaw01.StepSheets", spec := "stepSheets", unfollowed := true, recurses := true, apart := false, narrowed := true }
def StepSheetsUptoSaid : Prop := stepSheetsUptoRow.holds Try.pinned (OpenSpec.upto stepSheetsSpec)

/-- 'pianolalaw01.StepOffsets', WHERE WHAT IT READS IS OF BULK AT MOST 1048576: true; the input reads as it did. -/
def stepOffsetsUptoRow : OpenClaim := { program := "ytnbcdbkhpdpjgaa", sum := "e8156006fe03d2ef03484f4097a187e05005fcc351fc44fcf13e7ae811b9356e", func := "pianola/pianolalaw01.StepOffsets", spec := "stepOffsets", unfollowed := true, recurses := true, apart := false, narrowed := true }
def StepOffsetsUptoSaid : Prop := stepOffsetsUptoRow.holds Try.pinned (OpenSpec.upto stepOffsetsSpec)

/-- 'pianolalaw01.StepSteps', WHERE WHAT IT READS IS OF BULK AT MOST 1048576: true; the input reads as it did. -/
def stepStepsUptoRow : OpenClaim := { program := "ytnbcdbkhpdpjgaa", sum := "e8156006fe03d2ef03484f4097a187e05005fcc351fc44fcf13e7ae811b9356e", func := "pianola/pianolalaw01.StepSteps", spec := "stepSteps", unfollowed := true, recurses := true, apart := false, narrowed := true }
def StepStepsUptoSaid : Prop := stepStepsUptoRow.holds Try.pinned (OpenSpec.upto stepStepsSpec)

/-- 'pianolalaw01.StepClashes', WHERE WHAT IT READS IS OF BULK AT MOST 1048576: true; the input reads as it did. -/
def stepClashesUptoRow : OpenClaim := { program := "ytnbcdbkhpdpjgaa", sum := "e8156006fe03d2ef03484f4097a187e05005fcc351fc44fcf13e7ae811b9356e", func := "pianola/pianolalaw01.StepClashes", spec := "stepClashes", unfollowed := true, recurses := true, apart := false, narrowed := true }
def StepClashesUptoSaid : Prop := stepClashesUptoRow.holds Try.pinned (OpenSpec.upto stepClashesSpec)

/-- 'pianolalaw01.StepTruth', WHERE WHAT IT READS IS OF BULK AT MOST 1048576: true; the input reads as it did. -/
def stepTruthUptoRow : OpenClaim := { program := "ytnbcdbkhpdpjgaa", sum := "e8156006fe03d2ef03484f4097a187e05005fcc351fc44fcf13e7ae811b9356e", func := "pianola/pianolalaw01.StepTruth", spec := "stepTruth", unfollowed := true, recurses := true, apart := false, narrowed := true }
def StepTruthUptoSaid : Prop := stepTruthUptoRow.holds Try.pinned (OpenSpec.upto stepTruthSpec)

/-- 'pianolalaw01.StepExact', WHERE WHAT IT READS IS OF BULK AT MOST 1048576: true; the input reads as it did. -/
def stepExactUptoRow : OpenClaim := { program := "ytnbcdbkhpdpjgaa", sum := "e8156006fe03d2ef03484f4097a187e05005fcc351fc44fcf13e7ae811b9356e", func := "pianola/pianolalaw01.StepExact", spec := "stepExact", unfollowed := true, recurses := true, apart := false, narrowed := true }
def StepExactUptoSaid : Prop := stepExactUptoRow.holds Try.pinned (OpenSpec.upto stepExactSpec)

/-- 'pianolalaw01.StepFewest', WHERE WHAT IT READS IS OF BULK AT MOST 1048576: true; the input reads as it did. -/
def stepFewestUptoRow : OpenClaim := { program := "ytnbcdbkhpdpjgaa", sum := "e8156006fe03d2ef03484f4097a187e05005fcc351fc44fcf13e7ae811b9356e", func := "pianola/pianolalaw01.StepFewest", spec := "stepFewest", unfollowed := true, recurses := true, apart := false, narrowed := true }
def StepFewestUptoSaid : Prop := stepFewestUptoRow.holds Try.pinned (OpenSpec.upto stepFewestSpec)

/-- 'pianolalaw01.StepDivisors', WHERE WHAT IT READS IS OF BULK AT MOST 1048576: true; the input reads as it did. -/
def stepDivisorsUptoRow : OpenClaim := { program := "ytnbcdbkhpdpjgaa", sum := "e8156006fe03d2ef03484f4097a187e05005fcc351fc44fcf13e7ae811b9356e", func := "pianola/pianolalaw01.StepDivisors", spec := "stepDivisors", unfollowed := true, recurses := true, apart := false, narrowed := true }
def StepDivisorsUptoSaid : Prop := stepDivisorsUptoRow.holds Try.pinned (OpenSpec.upto stepDivisorsSpec)

/-- 'pianolalaw01.StepMore', WHERE WHAT IT READS IS OF BULK AT MOST 1048576: true; the input reads as it did. -/
def stepMoreUptoRow : OpenClaim := { program := "ytnbcdbkhpdpjgaa", sum := "e8156006fe03d2ef03484f4097a187e05005fcc351fc44fcf13e7ae811b9356e", func := "pianola/pianolalaw01.StepMore", spec := "stepMore", unfollowed := true, recurses := true, apart := false, narrowed := true }
def StepMoreUptoSaid : Prop := stepMoreUptoRow.holds Try.pinned (OpenSpec.upto stepMoreSpec)

/-- 'pianolalaw01.StepShifts', WHERE WHAT IT READS IS OF BULK AT MOST 1048576: true; the input reads as it did. -/
def stepShiftsUptoRow : OpenClaim := { program := "ytnbcdbkhpdpjgaa", sum := "e8156006fe03d2ef03484f4097a187e05005fcc351fc44fcf13e7ae811b9356e", func := "pianola/pianolalaw01.StepShifts", spec := "stepShifts", unfollowed := true, recurses := true, apart := false, narrowed := true }
def StepShiftsUptoSaid : Prop := stepShiftsUptoRow.holds Try.pinned (OpenSpec.upto stepShiftsSpec)

/-- 'pianolalaw01.StepKnown', WHERE WHAT IT READS IS OF BULK AT MOST 1048576: true; the input reads as it did. -/
def stepKnownUptoRow : OpenClaim := { program := "ytnbcdbkhpdpjgaa", sum := "e8156006fe03d2ef03484f4097a187e05005fcc351fc44fcf13e7ae811b9356e", func := "pianola/pianolalaw01.StepKnown", spec := "stepKnown", unfollowed := true, recurses := true, apart := false, narrowed := true }
def StepKnownUptoSaid : Prop := stepKnownUptoRow.holds Try.pinned (OpenSpec.upto stepKnownSpec)

end Rows
end Go.Proofs.Ytnbcdbkhpdpjgaa
