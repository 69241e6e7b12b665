/-
  No cell of these rows narrows 'for every input' (looked for: loops, veiled, ifaces, maps, wideKeys, modest, calm, conditions, laid).
  DERIVED. THE GIVEN ROWS OF THIS SEAT. 9 by the template 'for every input the law returns true; each argument reads behind the call as it read before'; 0 by the template 'total and deterministic' (their statements: YtpiaeiihacobnaaTotals.lean).
  GIVEN WITH THE SEED: the statements are not yours to turn. If you find one false, say at which input.
  Laid BY PROGRAM, IN A SANDBOX (cutbox-rows.mjs): the forced cells as the released guide's own fill.sh prints them over the translation 4fef6f6a6365b09c… (all of the seat's roots in one cut). By AI agents, Wed Nov 11 2026. No macro, syntax, notation, axiom, sorry.
-/
import Derived.Test.YtpiaeiihacobnaaChecked
import GoSem.Claim
import GoSem.ClaimJoined
import GoSem.ClaimMapViews
import Derived.JoinedTies
import Derived.KernelRfl
namespace Go.Proofs.Ytpiaeiihacobnaa
/- THE CELL 'sum', in the pinned program and in every row, IS THE sha256 OF THE DUMP (.gsa) THAT YtpiaeiihacobnaaProg.lean LOADS. Nothing in Lean hashes anything: it is a label: what it is worth is what the hold of that sum in a sandbox is worth. -/
noncomputable def Try.pinned : Pinned := { name := "ytpiaeiihacobnaa", sum := "4fef6f6a6365b09c7f689a7e1c2ed4a87a8111574926ebb92b81be114aaafa6f", checked := Try.checked }
namespace Rows
def none {H : Type} : Left H := { results := [], args := [] }

/-- 'laws.FnExactTimesOk': WHATEVER THE INPUT: true; the input reads as it did. -/
def fnExactTimesOkSpec : ChangeSpec := { name := "fnExactTimesOk", fn := fun _ => fun
  | [d] => { results := [.lit (.bool true)], args := [d] }
  | _ => none }
def fnExactTimesOkRow : OpenClaim := { program := "ytpiaeiihacobnaa", sum := "4fef6f6a6365b09c7f689a7e1c2ed4a87a8111574926ebb92b81be114aaafa6f", func := "loop.example/g03204/laws.FnExactTimesOk", spec := "fnExactTimesOk", unfollowed := true, recurses := true, apart := false }
def FnExactTimesOkSaid : Prop := fnExactTimesOkRow.holds Try.pinned (OpenSpec.ofChange fnExactTimesOkSpec)

/-- ITS FALSE NEIGHBOUR: 'it returns false'. Refute it at one input. -/
def fnExactTimesOkWrong : ChangeSpec := { name := "fnExactTimesOk", fn := fun _ => fun
  | [d] => { results := [.lit (.bool false)], args := [d] }
  | _ => none }
def FnExactTimesOkWrongFalsely : Prop := fnExactTimesOkRow.holds Try.pinned (OpenSpec.ofChange fnExactTimesOkWrong)

/-- 'laws.FnExactMostError': WHATEVER THE INPUT: true; the input reads as it did. -/
def fnExactMostErrorSpec : ChangeSpec := { name := "fnExactMostError", fn := fun _ => fun
  | [d1, d2] => { results := [.lit (.bool true)], args := [d1, d2] }
  | _ => none }
def fnExactMostErrorRow : OpenClaim := { program := "ytpiaeiihacobnaa", sum := "4fef6f6a6365b09c7f689a7e1c2ed4a87a8111574926ebb92b81be114aaafa6f", func := "loop.example/g03204/laws.FnExactMostError", spec := "fnExactMostError", unfollowed := true, recurses := true, apart := false }
def FnExactMostErrorSaid : Prop := fnExactMostErrorRow.holds Try.pinned (OpenSpec.ofChange fnExactMostErrorSpec)

/-- ITS FALSE NEIGHBOUR: 'it returns false'. Refute it at one input. -/
def fnExactMostErrorWrong : ChangeSpec := { name := "fnExactMostError", fn := fun _ => fun
  | [d1, d2] => { results := [.lit (.bool false)], args := [d1, d2] }
  | _ => none }
def FnExactMostErrorWrongFalsely : Prop := fnExactMostErrorRow.holds Try.pinned (OpenSpec.ofChange fnExactMostErrorWrong)

/-- 'laws.FnExactQuantizeError': WHATEVER THE INPUT: true; the input reads as it did. -/
def fnExactQuantizeErrorSpec : ChangeSpec := { name := "fnExactQuantizeError", fn := fun _ => fun
  | [d1, d2] => { results := [.lit (.bool true)], args := [d1, d2] }
  | _ => none }
def fnExactQuantizeErrorRow : OpenClaim := { program := "ytpiaeiihacobnaa", sum := "4fef6f6a6365b09c7f689a7e1c2ed4a87a8111574926ebb92b81be114aaafa6f", func := "loop.example/g03204/laws.FnExactQuantizeError", spec := "fnExactQuantizeError", unfollowed := true, recurses := true, apart := false }
def FnExactQuantizeErrorSaid : Prop := fnExactQuantizeErrorRow.holds Try.pinned (OpenSpec.ofChange fnExactQuantizeErrorSpec)

/-- ITS FALSE NEIGHBOUR: 'it returns false'. Refute it at one input. -/
def fnExactQuantizeErrorWrong : ChangeSpec := { name := "fnExactQuantizeError", fn := fun _ => fun
  | [d1, d2] => { results := [.lit (.bool false)], args := [d1, d2] }
  | _ => none }
def FnExactQuantizeErrorWrongFalsely : Prop := fnExactQuantizeErrorRow.holds Try.pinned (OpenSpec.ofChange fnExactQuantizeErrorWrong)

/-- 'laws.FnExactPartQuantize': WHATEVER THE INPUT: true; the input reads as it did. -/
def fnExactPartQuantizeSpec : ChangeSpec := { name := "fnExactPartQuantize", fn := fun _ => fun
  | [d1, d2, d3] => { results := [.lit (.bool true)], args := [d1, d2, d3] }
  | _ => none }
def fnExactPartQuantizeRow : OpenClaim := { program := "ytpiaeiihacobnaa", sum := "4fef6f6a6365b09c7f689a7e1c2ed4a87a8111574926ebb92b81be114aaafa6f", func := "loop.example/g03204/laws.FnExactPartQuantize", spec := "fnExactPartQuantize", unfollowed := true, recurses := true, apart := false }
def FnExactPartQuantizeSaid : Prop := fnExactPartQuantizeRow.holds Try.pinned (OpenSpec.ofChange fnExactPartQuantizeSpec)

/-- ITS FALSE NEIGHBOUR: 'it returns false'. Refute it at one input. -/
def fnExactPartQuantizeWrong : ChangeSpec := { name := "fnExactPartQuantize", fn := fun _ => fun
  | [d1, d2, d3] => { results := [.lit (.bool false)], args := [d1, d2, d3] }
  | _ => none }
def FnExactPartQuantizeWrongFalsely : Prop := fnExactPartQuantizeRow.holds Try.pinned (OpenSpec.ofChange fnExactPartQuantizeWrong)

/-- 'laws.FnExactQuantize': WHATEVER THE INPUT: true; the input reads as it did. -/
def fnExactQuantizeSpec : ChangeSpec := { name := "fnExactQuantize", fn := fun _ => fun
  | [d1, d2] => { results := [.lit (.bool true)], args := [d1, d2] }
  | _ => none }
def fnExactQuantizeRow : OpenClaim := { program := "ytpiaeiihacobnaa", sum := "4fef6f6a6365b09c7f689a7e1c2ed4a87a8111574926ebb92b81be114aaafa6f", func := "loop.example/g03204/laws.FnExactQuantize", spec := "fnExactQuantize", unfollowed := true, recurses := true, apart := false }
def FnExactQuantizeSaid : Prop := fnExactQuantizeRow.holds Try.pinned (OpenSpec.ofChange fnExactQuantizeSpec)

/-- ITS FALSE NEIGHBOUR: 'it returns false'. Refute it at one input. -/
def fnExactQuantizeWrong : ChangeSpec := { name := "fnExactQuantize", fn := fun _ => fun
  | [d1, d2] => { results := [.lit (.bool false)], args := [d1, d2] }
  | _ => none }
def FnExactQuantizeWrongFalsely : Prop := fnExactQuantizeRow.holds Try.pinned (OpenSpec.ofChange fnExactQuantizeWrong)

/-- 'laws.FnExactShiftTimes': WHATEVER THE INPUT: true; the input reads as it did. -/
def fnExactShiftTimesSpec : ChangeSpec := { name := "fnExactShiftTimes", fn := fun _ => fun
  | [d1, d2] => { results := [.lit (.bool true)], args := [d1, d2] }
  | _ => none }
def fnExactShiftTimesRow : OpenClaim := { program := "ytpiaeiihacobnaa", sum := "4fef6f6a6365b09c7f689a7e1c2ed4a87a8111574926ebb92b81be114aaafa6f", func := "loop.example/g03204/laws.FnExactShiftTimes", spec := "fnExactShiftTimes", unfollowed := true, recurses := true, apart := false }
def FnExactShiftTimesSaid : Prop := fnExactShiftTimesRow.holds Try.pinned (OpenSpec.ofChange fnExactShiftTimesSpec)

/-- ITS FALSE NEIGHBOUR: 'it returns false'. Refute it at one input. -/
def fnExactShiftTimesWrong : ChangeSpec := { name := "fnExactShiftTimes", fn := fun _ => fun
  | [d1, d2] => { results := [.lit (.bool false)], args := [d1, d2] }
  | _ => none }
def FnExactShiftTimesWrongFalsely : Prop := fnExactShiftTimesRow.holds Try.pinned (OpenSpec.ofChange fnExactShiftTimesWrong)

/-- 'laws.FnExactBestGrid': WHATEVER THE INPUT: true; the input reads as it did. -/
def fnExactBestGridSpec : ChangeSpec := { name := "fnExactBestGrid", fn := fun _ => fun
  | [d1, d2, d3] => { results := [.lit (.bool true)], args := [d1, d2, d3] }
  | _ => none }
def fnExactBestGridRow : OpenClaim := { program := "ytpiaeiihacobnaa", sum := "4fef6f6a6365b09c7f689a7e1c2ed4a87a8111574926ebb92b81be114aaafa6f", func := "loop.example/g03204/laws.FnExactBestGrid", spec := "fnExactBestGrid", unfollowed := true, recurses := true, apart := false }
def FnExactBestGridSaid : Prop := fnExactBestGridRow.holds Try.pinned (OpenSpec.ofChange fnExactBestGridSpec)

/-- ITS FALSE NEIGHBOUR: 'it returns false'. Refute it at one input. -/
def fnExactBestGridWrong : ChangeSpec := { name := "fnExactBestGrid", fn := fun _ => fun
  | [d1, d2, d3] => { results := [.lit (.bool false)], args := [d1, d2, d3] }
  | _ => none }
def FnExactBestGridWrongFalsely : Prop := fnExactBestGridRow.holds Try.pinned (OpenSpec.ofChange fnExactBestGridWrong)

/-- 'laws.FnExactTimesRhythm': WHATEVER THE INPUT: true; the input reads as it did. -/
def fnExactTimesRhythmSpec : ChangeSpec := { name := "fnExactTimesRhythm", fn := fun _ => fun
  | [d1, d2, d3] => { results := [.lit (.bool true)], args := [d1, d2, d3] }
  | _ => none }
def fnExactTimesRhythmRow : OpenClaim := { program := "ytpiaeiihacobnaa", sum := "4fef6f6a6365b09c7f689a7e1c2ed4a87a8111574926ebb92b81be114aaafa6f", func := "loop.example/g03204/laws.FnExactTimesRhythm", spec := "fnExactTimesRhythm", unfollowed := true, recurses := true, apart := false }
def FnExactTimesRhythmSaid : Prop := fnExactTimesRhythmRow.holds Try.pinned (OpenSpec.ofChange fnExactTimesRhythmSpec)

/-- ITS FALSE NEIGHBOUR: 'it returns false'. Refute it at one input. -/
def fnExactTimesRhythmWrong : ChangeSpec := { name := "fnExactTimesRhythm", fn := fun _ => fun
  | [d1, d2, d3] => { results := [.lit (.bool false)], args := [d1, d2, d3] }
  | _ => none }
def FnExactTimesRhythmWrongFalsely : Prop := fnExactTimesRhythmRow.holds Try.pinned (OpenSpec.ofChange fnExactTimesRhythmWrong)

/-- 'laws.FnQuantize': WHATEVER THE INPUT: true; the input reads as it did. -/
def fnQuantizeSpec : ChangeSpec := { name := "fnQuantize", fn := fun _ => fun
  | [d] => { results := [.lit (.bool true)], args := [d] }
  | _ => none }
def fnQuantizeRow : OpenClaim := { program := "ytpiaeiihacobnaa", sum := "4fef6f6a6365b09c7f689a7e1c2ed4a87a8111574926ebb92b81be114aaafa6f", func := "loop.example/g03204/laws.FnQuantize", spec := "fnQuantize", unfollowed := true, recurses := true, apart := false }
def FnQuantizeSaid : Prop := fnQuantizeRow.holds Try.pinned (OpenSpec.ofChange fnQuantizeSpec)

/-- ITS FALSE NEIGHBOUR: 'it returns false'. Refute it at one input. -/
def fnQuantizeWrong : ChangeSpec := { name := "fnQuantize", fn := fun _ => fun
  | [d] => { results := [.lit (.bool false)], args := [d] }
  | _ => none }
def FnQuantizeWrongFalsely : Prop := fnQuantizeRow.holds Try.pinned (OpenSpec.ofChange fnQuantizeWrong)

/- THE SECOND FORM. 'bulk': how many values and letters a reading holds, each counted each time it is reached (what is shared counts as often as it is met; a slice's spare places count too). A statement '..UptoSaid' is the law's where the arguments, and the package variables that the reading takes, are together of bulk at most 1048576: NARROWER than '..Said'. Prove '..Said' where nothing that the law and all that it calls make is longer than what came in: it says more and counts as full. Else prove '..UptoSaid'. A law counts once. -/
mutual
def uptoBulk {H : Type} : DataW H → Nat
  | .lit (.string bytes) => bytes.length + 1
  | .lit _ => 1
  | .nil => 1
  | .ptr d => uptoBulk d + 1
  | .slice elems spare => uptoBulkAll elems + uptoBulkAll spare + 1
  | .agg parts => uptoBulkAll parts + 1
  | .iface _ d => uptoBulk d + 1
  | .map entries => uptoBulkEntries entries + 1
  | .held _ => 1
def uptoBulkAll {H : Type} : List (DataW H) → Nat
  | [] => 0
  | d :: r => uptoBulk d + uptoBulkAll r
def uptoBulkEntries {H : Type} : List (Lit × DataW H) → Nat
  | [] => 0
  | x :: r => uptoBulkEntry x + uptoBulkEntries r
def uptoBulkEntry {H : Type} : Lit × DataW H → Nat
  | (.string bytes, d) => bytes.length + uptoBulk d + 1
  | (_, d) => uptoBulk d + 1
 end
def uptoSmall : (H : Type) → List (DataW H) → Bool := fun _ ds => decide (uptoBulkAll ds ≤ 1048576)
def OpenSpec.upto (s : _root_.Go.ChangeSpec) : _root_.Go.OpenSpec := { _root_.Go.OpenSpec.ofChange s with cond := some uptoSmall }

/-- 'laws.FnExactTimesOk', WHERE WHAT IT READS IS OF BULK AT MOST 1048576: true; the input reads as it did. -/
def fnExactTimesOkUptoRow : OpenClaim := { program := "ytpiaeiihacobnaa", sum := "4fef6f6a6365b09c7f689a7e1c2ed4a87a8111574926ebb92b81be114aaafa6f", func := "loop.example/g03204/laws.FnExactTimesOk", spec := "fnExactTimesOk", unfollowed := true, recurses := true, apart := false, narrowed := true }
def FnExactTimesOkUptoSaid : Prop := fnExactTimesOkUptoRow.holds Try.pinned (OpenSpec.upto fnExactTimesOkSpec)

/-- 'laws.FnExactMostError', WHERE WHAT IT READS IS OF BULK AT MOST 1048576: true; the input reads as it did. -/
def fnExactMostErrorUptoRow : OpenClaim := { program := "ytpiaeiihacobnaa", sum := "4fef6f6a6365b09c7f689a7e1c2ed4a87a8111574926ebb92b81be114aaafa6f", func := "loop.example/g03204/laws.FnExactMostError", spec := "fnExactMostError", unfollowed := true, recurses := true, apart := false, narrowed := true }
def FnExactMostErrorUptoSaid : Prop := fnExactMostErrorUptoRow.holds Try.pinned (OpenSpec.upto fnExactMostErrorSpec)

/-- 'laws.FnExactQuantizeError', WHERE WHAT IT READS IS OF BULK AT MOST 1048576: true; the input reads as it did. -/
def fnExactQuantizeErrorUptoRow : OpenClaim := { program := "ytpiaeiihacobnaa", sum := "4fef6f6a6365b09c7f689a7e1c2ed4a87a8111574926ebb92b81be114aaafa6f", func := "loop.example/g03204/laws.FnExactQuantizeError", spec := "fnExactQuantizeError", unfollowed := true, recurses := true, apart := false, narrowed := true }
def FnExactQuantizeErrorUptoSaid : Prop := fnExactQuantizeErrorUptoRow.holds Try.pinned (OpenSpec.upto fnExactQuantizeErrorSpec)

/-- 'laws.FnExactPartQuantize', WHERE WHAT IT READS IS OF BULK AT MOST 1048576: true; the input reads as it did. -/
def fnExactPartQuantizeUptoRow : OpenClaim := { program := "ytpiaeiihacobnaa", sum := "4fef6f6a6365b09c7f689a7e1c2ed4a87a8111574926ebb92b81be114aaafa6f", func := "loop.example/g03204/laws.FnExactPartQuantize", spec := "fnExactPartQuantize", unfollowed := true, recurses := true, apart := false, narrowed := true }
def FnExactPartQuantizeUptoSaid : Prop := fnExactPartQuantizeUptoRow.holds Try.pinned (OpenSpec.upto fnExactPartQuantizeSpec)

/-- 'laws.FnExactQuantize', WHERE WHAT IT READS IS OF BULK AT MOST 1048576: true; the input reads as it did. -/
def fnExactQuantizeUptoRow : OpenClaim := { program := "ytpiaeiihacobnaa", sum := "4fef6f6a6365b09c7f689a7e1c2ed4a87a8111574926ebb92b81be114aaafa6f", func := "loop.example/g03204/laws.FnExactQuantize", spec := "fnExactQuantize", unfollowed := true, recurses := true, apart := false, narrowed := true }
def FnExactQuantizeUptoSaid : Prop := fnExactQuantizeUptoRow.holds Try.pinned (OpenSpec.upto fnExactQuantizeSpec)

/-- 'laws.FnExactShiftTimes', WHERE WHAT IT READS IS OF BULK AT MOST 1048576: true; the input reads as it did. -/
def fnExactShiftTimesUptoRow : OpenClaim := { program := "ytpiaeiihacobnaa", sum := "4fef6f6a6365b09c7f689a7e1c2ed4a87a8111574926ebb92b81be114aaafa6f", func := "loop.example/g03204/laws.FnExactShiftTimes", spec := "fnExactShiftTimes", unfollowed := true, recurses := true, apart := false, narrowed := true }
def FnExactShiftTimesUptoSaid : Prop := fnExactShiftTimesUptoRow.holds Try.pinned (OpenSpec.upto fnExactShiftTimesSpec)

/-- 'laws.FnExactBestGrid', WHERE WHAT IT READS IS OF BULK AT MOST 1048576: true; the input reads as it did. -/
def fnExactBestGridUptoRow : OpenClaim := { program := "ytpiaeiihacobnaa", sum := "4fef6f6a6365b09c7f689a7e1c2ed4a87a8111574926ebb92b81be114aaafa6f", func := "loop.example/g03204/laws.FnExactBestGrid", spec := "fnExactBestGrid", unfollowed := true, recurses := true, apart := false, narrowed := true }
def FnExactBestGridUptoSaid : Prop := fnExactBestGridUptoRow.holds Try.pinned (OpenSpec.upto fnExactBestGridSpec)

/-- 'laws.FnExactTimesRhythm', WHERE WHAT IT READS IS OF BULK AT MOST 1048576: true; the input reads as it did. -/
def fnExactTimesRhythmUptoRow : OpenClaim := { program := "ytpiaeiihacobnaa", sum := "4fef6f6a6365b09c7f689a7e1c2ed4a87a8111574926ebb92b81be114aaafa6f", func := "loop.example/g03204/laws.FnExactTimesRhythm", spec := "fnExactTimesRhythm", unfollowed := true, recurses := true, apart := false, narrowed := true }
def FnExactTimesRhythmUptoSaid : Prop := fnExactTimesRhythmUptoRow.holds Try.pinned (OpenSpec.upto fnExactTimesRhythmSpec)

/-- 'laws.FnQuantize', WHERE WHAT IT READS IS OF BULK AT MOST 1048576: true; the input reads as it did. -/
def fnQuantizeUptoRow : OpenClaim := { program := "ytpiaeiihacobnaa", sum := "4fef6f6a6365b09c7f689a7e1c2ed4a87a8111574926ebb92b81be114aaafa6f", func := "loop.example/g03204/laws.FnQuantize", spec := "fnQuantize", unfollowed := true, recurses := true, apart := false, narrowed := true }
def FnQuantizeUptoSaid : Prop := fnQuantizeUptoRow.holds Try.pinned (OpenSpec.upto fnQuantizeSpec)

end Rows
end Go.Proofs.Ytpiaeiihacobnaa
