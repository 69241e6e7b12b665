/-
  No cell of these rows narrows 'for every input' (looked for: loops, veiled, ifaces, maps, wideKeys, modest, calm, conditions, laid).
  DERIVED. THE GIVEN ROWS OF THIS SEAT. 9 by the template 'for every input the law returns true; each argument reads behind the call as it read before'; 0 by the template 'total and deterministic' (their statements: YtoobffhchbgkjaaTotals.lean).
  GIVEN WITH THE SEED: the statements are not yours to turn. If you find one false, say at which input.
  Laid BY PROGRAM, IN A SANDBOX (cutbox-rows.mjs): the forced cells as the released guide's own fill.sh prints them over the translation d7abf2e08e67b3a2… (all of the seat's roots in one cut). By AI agents, Wed Nov 11 2026. No macro, syntax, notation, axiom, sorry.
-/
import Derived.Test.YtoobffhchbgkjaaChecked
import GoSem.Claim
import GoSem.ClaimJoined
import GoSem.ClaimMapViews
import Derived.JoinedTies
import Derived.KernelRfl
namespace Go.Proofs.Ytoobffhchbgkjaa
/- THE CELL 'sum', in the pinned program and in every row, IS THE sha256 OF THE DUMP (.gsa) THAT YtoobffhchbgkjaaProg.lean LOADS. Nothing in Lean hashes anything: it is a label: what it is worth is what the hold of that sum in a sandbox is worth. -/
noncomputable def Try.pinned : Pinned := { name := "ytoobffhchbgkjaa", sum := "d7abf2e08e67b3a2bae36e82e8cc30a34a9e936e7af70912ddd624baca28dc75", checked := Try.checked }
namespace Rows
def none {H : Type} : Left H := { results := [], args := [] }

/-- 'laws.FnExactTempoOk': WHATEVER THE INPUT: true; the input reads as it did. -/
def fnExactTempoOkSpec : ChangeSpec := { name := "fnExactTempoOk", fn := fun _ => fun
  | [d] => { results := [.lit (.bool true)], args := [d] }
  | _ => none }
def fnExactTempoOkRow : OpenClaim := { program := "ytoobffhchbgkjaa", sum := "d7abf2e08e67b3a2bae36e82e8cc30a34a9e936e7af70912ddd624baca28dc75", func := "loop.example/g03204/laws.FnExactTempoOk", spec := "fnExactTempoOk", unfollowed := true, recurses := true, apart := false }
def FnExactTempoOkSaid : Prop := fnExactTempoOkRow.holds Try.pinned (OpenSpec.ofChange fnExactTempoOkSpec)

/-- ITS FALSE NEIGHBOUR: 'it returns false'. Refute it at one input. -/
def fnExactTempoOkWrong : ChangeSpec := { name := "fnExactTempoOk", fn := fun _ => fun
  | [d] => { results := [.lit (.bool false)], args := [d] }
  | _ => none }
def FnExactTempoOkWrongFalsely : Prop := fnExactTempoOkRow.holds Try.pinned (OpenSpec.ofChange fnExactTempoOkWrong)

/-- 'laws.FnExactCountTempo': WHATEVER THE INPUT: true; the input reads as it did. -/
def fnExactCountTempoSpec : ChangeSpec := { name := "fnExactCountTempo", fn := fun _ => fun
  | [d] => { results := [.lit (.bool true)], args := [d] }
  | _ => none }
def fnExactCountTempoRow : OpenClaim := { program := "ytoobffhchbgkjaa", sum := "d7abf2e08e67b3a2bae36e82e8cc30a34a9e936e7af70912ddd624baca28dc75", func := "loop.example/g03204/laws.FnExactCountTempo", spec := "fnExactCountTempo", unfollowed := true, recurses := true, apart := false }
def FnExactCountTempoSaid : Prop := fnExactCountTempoRow.holds Try.pinned (OpenSpec.ofChange fnExactCountTempoSpec)

/-- ITS FALSE NEIGHBOUR: 'it returns false'. Refute it at one input. -/
def fnExactCountTempoWrong : ChangeSpec := { name := "fnExactCountTempo", fn := fun _ => fun
  | [d] => { results := [.lit (.bool false)], args := [d] }
  | _ => none }
def FnExactCountTempoWrongFalsely : Prop := fnExactCountTempoRow.holds Try.pinned (OpenSpec.ofChange fnExactCountTempoWrong)

/-- 'laws.FnExactScaleTempo': WHATEVER THE INPUT: true; the input reads as it did. -/
def fnExactScaleTempoSpec : ChangeSpec := { name := "fnExactScaleTempo", fn := fun _ => fun
  | [d1, d2] => { results := [.lit (.bool true)], args := [d1, d2] }
  | _ => none }
def fnExactScaleTempoRow : OpenClaim := { program := "ytoobffhchbgkjaa", sum := "d7abf2e08e67b3a2bae36e82e8cc30a34a9e936e7af70912ddd624baca28dc75", func := "loop.example/g03204/laws.FnExactScaleTempo", spec := "fnExactScaleTempo", unfollowed := true, recurses := true, apart := false }
def FnExactScaleTempoSaid : Prop := fnExactScaleTempoRow.holds Try.pinned (OpenSpec.ofChange fnExactScaleTempoSpec)

/-- ITS FALSE NEIGHBOUR: 'it returns false'. Refute it at one input. -/
def fnExactScaleTempoWrong : ChangeSpec := { name := "fnExactScaleTempo", fn := fun _ => fun
  | [d1, d2] => { results := [.lit (.bool false)], args := [d1, d2] }
  | _ => none }
def FnExactScaleTempoWrongFalsely : Prop := fnExactScaleTempoRow.holds Try.pinned (OpenSpec.ofChange fnExactScaleTempoWrong)

/-- 'laws.FnExactSplitTempo': WHATEVER THE INPUT: true; the input reads as it did. -/
def fnExactSplitTempoSpec : ChangeSpec := { name := "fnExactSplitTempo", fn := fun _ => fun
  | [d1, d2] => { results := [.lit (.bool true)], args := [d1, d2] }
  | _ => none }
def fnExactSplitTempoRow : OpenClaim := { program := "ytoobffhchbgkjaa", sum := "d7abf2e08e67b3a2bae36e82e8cc30a34a9e936e7af70912ddd624baca28dc75", func := "loop.example/g03204/laws.FnExactSplitTempo", spec := "fnExactSplitTempo", unfollowed := true, recurses := true, apart := false }
def FnExactSplitTempoSaid : Prop := fnExactSplitTempoRow.holds Try.pinned (OpenSpec.ofChange fnExactSplitTempoSpec)

/-- ITS FALSE NEIGHBOUR: 'it returns false'. Refute it at one input. -/
def fnExactSplitTempoWrong : ChangeSpec := { name := "fnExactSplitTempo", fn := fun _ => fun
  | [d1, d2] => { results := [.lit (.bool false)], args := [d1, d2] }
  | _ => none }
def FnExactSplitTempoWrongFalsely : Prop := fnExactSplitTempoRow.holds Try.pinned (OpenSpec.ofChange fnExactSplitTempoWrong)

/-- 'laws.FnExactSameTime': WHATEVER THE INPUT: true; the input reads as it did. -/
def fnExactSameTimeSpec : ChangeSpec := { name := "fnExactSameTime", fn := fun _ => fun
  | [d1, d2] => { results := [.lit (.bool true)], args := [d1, d2] }
  | _ => none }
def fnExactSameTimeRow : OpenClaim := { program := "ytoobffhchbgkjaa", sum := "d7abf2e08e67b3a2bae36e82e8cc30a34a9e936e7af70912ddd624baca28dc75", func := "loop.example/g03204/laws.FnExactSameTime", spec := "fnExactSameTime", unfollowed := true, recurses := true, apart := false }
def FnExactSameTimeSaid : Prop := fnExactSameTimeRow.holds Try.pinned (OpenSpec.ofChange fnExactSameTimeSpec)

/-- ITS FALSE NEIGHBOUR: 'it returns false'. Refute it at one input. -/
def fnExactSameTimeWrong : ChangeSpec := { name := "fnExactSameTime", fn := fun _ => fun
  | [d1, d2] => { results := [.lit (.bool false)], args := [d1, d2] }
  | _ => none }
def FnExactSameTimeWrongFalsely : Prop := fnExactSameTimeRow.holds Try.pinned (OpenSpec.ofChange fnExactSameTimeWrong)

/-- 'laws.FnExactBeatAt': WHATEVER THE INPUT: true; the input reads as it did. -/
def fnExactBeatAtSpec : ChangeSpec := { name := "fnExactBeatAt", fn := fun _ => fun
  | [d1, d2] => { results := [.lit (.bool true)], args := [d1, d2] }
  | _ => none }
def fnExactBeatAtRow : OpenClaim := { program := "ytoobffhchbgkjaa", sum := "d7abf2e08e67b3a2bae36e82e8cc30a34a9e936e7af70912ddd624baca28dc75", func := "loop.example/g03204/laws.FnExactBeatAt", spec := "fnExactBeatAt", unfollowed := true, recurses := true, apart := false }
def FnExactBeatAtSaid : Prop := fnExactBeatAtRow.holds Try.pinned (OpenSpec.ofChange fnExactBeatAtSpec)

/-- ITS FALSE NEIGHBOUR: 'it returns false'. Refute it at one input. -/
def fnExactBeatAtWrong : ChangeSpec := { name := "fnExactBeatAt", fn := fun _ => fun
  | [d1, d2] => { results := [.lit (.bool false)], args := [d1, d2] }
  | _ => none }
def FnExactBeatAtWrongFalsely : Prop := fnExactBeatAtRow.holds Try.pinned (OpenSpec.ofChange fnExactBeatAtWrong)

/-- 'laws.FnExactTimeOf': WHATEVER THE INPUT: true; the input reads as it did. -/
def fnExactTimeOfSpec : ChangeSpec := { name := "fnExactTimeOf", fn := fun _ => fun
  | [d1, d2] => { results := [.lit (.bool true)], args := [d1, d2] }
  | _ => none }
def fnExactTimeOfRow : OpenClaim := { program := "ytoobffhchbgkjaa", sum := "d7abf2e08e67b3a2bae36e82e8cc30a34a9e936e7af70912ddd624baca28dc75", func := "loop.example/g03204/laws.FnExactTimeOf", spec := "fnExactTimeOf", unfollowed := true, recurses := true, apart := false }
def FnExactTimeOfSaid : Prop := fnExactTimeOfRow.holds Try.pinned (OpenSpec.ofChange fnExactTimeOfSpec)

/-- ITS FALSE NEIGHBOUR: 'it returns false'. Refute it at one input. -/
def fnExactTimeOfWrong : ChangeSpec := { name := "fnExactTimeOf", fn := fun _ => fun
  | [d1, d2] => { results := [.lit (.bool false)], args := [d1, d2] }
  | _ => none }
def FnExactTimeOfWrongFalsely : Prop := fnExactTimeOfRow.holds Try.pinned (OpenSpec.ofChange fnExactTimeOfWrong)

/-- 'laws.FnExactMeetingTimes': WHATEVER THE INPUT: true; the input reads as it did. -/
def fnExactMeetingTimesSpec : ChangeSpec := { name := "fnExactMeetingTimes", fn := fun _ => fun
  | [d1, d2, d3, d4, d5] => { results := [.lit (.bool true)], args := [d1, d2, d3, d4, d5] }
  | _ => none }
def fnExactMeetingTimesRow : OpenClaim := { program := "ytoobffhchbgkjaa", sum := "d7abf2e08e67b3a2bae36e82e8cc30a34a9e936e7af70912ddd624baca28dc75", func := "loop.example/g03204/laws.FnExactMeetingTimes", spec := "fnExactMeetingTimes", apart := false }
def FnExactMeetingTimesSaid : Prop := fnExactMeetingTimesRow.holds Try.pinned (OpenSpec.ofChange fnExactMeetingTimesSpec)

/-- ITS FALSE NEIGHBOUR: 'it returns false'. Refute it at one input. -/
def fnExactMeetingTimesWrong : ChangeSpec := { name := "fnExactMeetingTimes", fn := fun _ => fun
  | [d1, d2, d3, d4, d5] => { results := [.lit (.bool false)], args := [d1, d2, d3, d4, d5] }
  | _ => none }
def FnExactMeetingTimesWrongFalsely : Prop := fnExactMeetingTimesRow.holds Try.pinned (OpenSpec.ofChange fnExactMeetingTimesWrong)

/-- 'laws.FnTempo': WHATEVER THE INPUT: true; the input reads as it did. -/
def fnTempoSpec : ChangeSpec := { name := "fnTempo", fn := fun _ => fun
  | [d] => { results := [.lit (.bool true)], args := [d] }
  | _ => none }
def fnTempoRow : OpenClaim := { program := "ytoobffhchbgkjaa", sum := "d7abf2e08e67b3a2bae36e82e8cc30a34a9e936e7af70912ddd624baca28dc75", func := "loop.example/g03204/laws.FnTempo", spec := "fnTempo", unfollowed := true, recurses := true, apart := false }
def FnTempoSaid : Prop := fnTempoRow.holds Try.pinned (OpenSpec.ofChange fnTempoSpec)

/-- ITS FALSE NEIGHBOUR: 'it returns false'. Refute it at one input. -/
def fnTempoWrong : ChangeSpec := { name := "fnTempo", fn := fun _ => fun
  | [d] => { results := [.lit (.bool false)], args := [d] }
  | _ => none }
def FnTempoWrongFalsely : Prop := fnTempoRow.holds Try.pinned (OpenSpec.ofChange fnTempoWrong)

/- THE SECOND FORM. 'bulk': how many values and letters a reading holds, each counted each time it is reached (what is shared counts as often as it is met; a slice's spare places count too). A statement '..UptoSaid' is the law's where the arguments, and the package variables that the reading takes, are together of bulk at most 1048576: NARROWER than '..Said'. Prove '..Said' where nothing that the law and all that it calls make is longer than what came in: it says more and counts as full. Else prove '..UptoSaid'. A law counts once. -/
mutual
def uptoBulk {H : Type} : DataW H → Nat
  | .lit (.string bytes) => bytes.length + 1
  | .lit _ => 1
  | .nil => 1
  | .ptr d => uptoBulk d + 1
  | .slice elems spare => uptoBulkAll elems + uptoBulkAll spare + 1
  | .agg parts => uptoBulkAll parts + 1
  | .iface _ d => uptoBulk d + 1
  | .map entries => uptoBulkEntries entries + 1
  | .held _ => 1
def uptoBulkAll {H : Type} : List (DataW H) → Nat
  | [] => 0
  | d :: r => uptoBulk d + uptoBulkAll r
def uptoBulkEntries {H : Type} : List (Lit × DataW H) → Nat
  | [] => 0
  | x :: r => uptoBulkEntry x + uptoBulkEntries r
def uptoBulkEntry {H : Type} : Lit × DataW H → Nat
  | (.string bytes, d) => bytes.length + uptoBulk d + 1
  | (_, d) => uptoBulk d + 1
 end
def uptoSmall : (H : Type) → List (DataW H) → Bool := fun _ ds => decide (uptoBulkAll ds ≤ 1048576)
def OpenSpec.upto (s : _root_.Go.ChangeSpec) : _root_.Go.OpenSpec := { _root_.Go.OpenSpec.ofChange s with cond := some uptoSmall }

/-- 'laws.FnExactTempoOk', WHERE WHAT IT READS IS OF BULK AT MOST 1048576: true; the input reads as it did. -/
def fnExactTempoOkUptoRow : OpenClaim := { program := "ytoobffhchbgkjaa", sum := "d7abf2e08e67b3a2bae36e82e8cc30a34a9e936e7af70912ddd624baca28dc75", func := "loop.example/g03204/laws.FnExactTempoOk", spec := "fnExactTempoOk", unfollowed := true, recurses := true, apart := false, narrowed := true }
def FnExactTempoOkUptoSaid : Prop := fnExactTempoOkUptoRow.holds Try.pinned (OpenSpec.upto fnExactTempoOkSpec)

/-- 'laws.FnExactCountTempo', WHERE WHAT IT READS IS OF BULK AT MOST 1048576: true; the input reads as it did. -/
def fnExactCountTempoUptoRow : OpenClaim := { program := "ytoobffhchbgkjaa", sum := "d7abf2e08e67b3a2bae36e82e8cc30a34a9e936e7af70912ddd624baca28dc75", func := "loop.example/g03204/laws.FnExactCountTempo", spec := "fnExactCountTempo", unfollowed := true, recurses := true, apart := false, narrowed := true }
def FnExactCountTempoUptoSaid : Prop := fnExactCountTempoUptoRow.holds Try.pinned (OpenSpec.upto fnExactCountTempoSpec)

/-- 'laws.FnExactScaleTempo', WHERE WHAT IT READS IS OF BULK AT MOST 1048576: true; the input reads as it did. -/
def fnExactScaleTempoUptoRow : OpenClaim := { program := "ytoobffhchbgkjaa", sum := "d7abf2e08e67b3a2bae36e82e8cc30a34a9e936e7af70912ddd624baca28dc75", func := "loop.example/g03204/laws.FnExactScaleTempo", spec := "fnExactScaleTempo", unfollowed := true, recurses := true, apart := false, narrowed := true }
def FnExactScaleTempoUptoSaid : Prop := fnExactScaleTempoUptoRow.holds Try.pinned (OpenSpec.upto fnExactScaleTempoSpec)

/-- 'laws.FnExactSplitTempo', WHERE WHAT IT READS IS OF BULK AT MOST 1048576: true; the input reads as it did. -/
def fnExactSplitTempoUptoRow : OpenClaim := { program := "ytoobffhchbgkjaa", sum := "d7abf2e08e67b3a2bae36e82e8cc30a34a9e936e7af70912ddd624baca28dc75", func := "loop.example/g03204/laws.FnExactSplitTempo", spec := "fnExactSplitTempo", unfollowed := true, recurses := true, apart := false, narrowed := true }
def FnExactSplitTempoUptoSaid : Prop := fnExactSplitTempoUptoRow.holds Try.pinned (OpenSpec.upto fnExactSplitTempoSpec)

/-- 'laws.FnExactSameTime', WHERE WHAT IT READS IS OF BULK AT MOST 1048576: true; the input reads as it did. -/
def fnExactSameTimeUptoRow : OpenClaim := { program := "ytoobffhchbgkjaa", sum := "d7abf2e08e67b3a2bae36e82e8cc30a34a9e936e7af70912ddd624baca28dc75", func := "loop.example/g03204/laws.FnExactSameTime", spec := "fnExactSameTime", unfollowed := true, recurses := true, apart := false, narrowed := true }
def FnExactSameTimeUptoSaid : Prop := fnExactSameTimeUptoRow.holds Try.pinned (OpenSpec.upto fnExactSameTimeSpec)

/-- 'laws.FnExactBeatAt', WHERE WHAT IT READS IS OF BULK AT MOST 1048576: true; the input reads as it did. -/
def fnExactBeatAtUptoRow : OpenClaim := { program := "ytoobffhchbgkjaa", sum := "d7abf2e08e67b3a2bae36e82e8cc30a34a9e936e7af70912ddd624baca28dc75", func := "loop.example/g03204/laws.FnExactBeatAt", spec := "fnExactBeatAt", unfollowed := true, recurses := true, apart := false, narrowed := true }
def FnExactBeatAtUptoSaid : Prop := fnExactBeatAtUptoRow.holds Try.pinned (OpenSpec.upto fnExactBeatAtSpec)

/-- 'laws.FnExactTimeOf', WHERE WHAT IT READS IS OF BULK AT MOST 1048576: true; the input reads as it did. -/
def fnExactTimeOfUptoRow : OpenClaim := { program := "ytoobffhchbgkjaa", sum := "d7abf2e08e67b3a2bae36e82e8cc30a34a9e936e7af70912ddd624baca28dc75", func := "loop.example/g03204/laws.FnExactTimeOf", spec := "fnExactTimeOf", unfollowed := true, recurses := true, apart := false, narrowed := true }
def FnExactTimeOfUptoSaid : Prop := fnExactTimeOfUptoRow.holds Try.pinned (OpenSpec.upto fnExactTimeOfSpec)

/-- 'laws.FnExactMeetingTimes', WHERE WHAT IT READS IS OF BULK AT MOST 1048576: true; the input reads as it did. -/
def fnExactMeetingTimesUptoRow : OpenClaim := { program := "ytoobffhchbgkjaa", sum := "d7abf2e08e67b3a2bae36e82e8cc30a34a9e936e7af70912ddd624baca28dc75", func := "loop.example/g03204/laws.FnExactMeetingTimes", spec := "fnExactMeetingTimes", apart := false, narrowed := true }
def FnExactMeetingTimesUptoSaid : Prop := fnExactMeetingTimesUptoRow.holds Try.pinned (OpenSpec.upto fnExactMeetingTimesSpec)

/-- 'laws.FnTempo', WHERE WHAT IT READS IS OF BULK AT MOST 1048576: true; the input reads as it did. -/
def fnTempoUptoRow : OpenClaim := { program := "ytoobffhchbgkjaa", sum := "d7abf2e08e67b3a2bae36e82e8cc30a34a9e936e7af70912ddd624baca28dc75", func := "loop.example/g03204/laws.FnTempo", spec := "fnTempo", unfollowed := true, recurses := true, apart := false, narrowed := true }
def FnTempoUptoSaid : Prop := fnTempoUptoRow.holds Try.pinned (OpenSpec.upto fnTempoSpec)

end Rows
end Go.Proofs.Ytoobffhchbgkjaa
