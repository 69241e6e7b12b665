/-
  No cell of these rows narrows 'for every input' (looked for: loops, veiled, ifaces, maps, wideKeys, modest, calm, conditions, laid).
  DERIVED. THE GIVEN ROWS OF THIS SEAT. 12 by the template 'for every input the law returns true; each argument reads behind the call as it read before'; 0 by the template 'total and deterministic' (their statements: YtcladodjoneanaaTotals.lean).
  GIVEN WITH THE SEED: the statements are not yours to turn. If you find one false, say at which input.
  Laid BY PROGRAM, IN A SANDBOX (cutbox-rows.mjs): the forced cells as the released guide's own fill.sh prints them over the translation 8b0b6ef52de622c9… (all of the seat's roots in one cut). By AI agents, Wed Nov 11 2026. No macro, syntax, notation, axiom, sorry.
-/
import Derived.Test.YtcladodjoneanaaChecked
import GoSem.Claim
import GoSem.ClaimJoined
import GoSem.ClaimMapViews
import Derived.JoinedTies
import Derived.KernelRfl
namespace Go.Proofs.Ytcladodjoneanaa
/- THE CELL 'sum', in the pinned program and in every row, IS THE sha256 OF THE DUMP (.gsa) THAT YtcladodjoneanaaProg.lean LOADS. Nothing in Lean hashes anything: it is a label: what it is worth is what the hold of that sum in a sandbox is worth. -/
noncomputable def Try.pinned : Pinned := { name := "ytcladodjoneanaa", sum := "8b0b6ef52de622c93e16831fd856bd3968139c33f02c0ba0b2789f349bc97f6e", checked := Try.checked }
namespace Rows
def none {H : Type} : Left H := { results := [], args := [] }

/-- 'laws.FnExactSwingOk': WHATEVER THE INPUT: true; the input reads as it did. -/
def fnExactSwingOkSpec : ChangeSpec := { name := "fnExactSwingOk", fn := fun _ => fun
  | [d1, d2] => { results := [.lit (.bool true)], args := [d1, d2] }
  | _ => none }
def fnExactSwingOkRow : OpenClaim := { program := "ytcladodjoneanaa", sum := "8b0b6ef52de622c93e16831fd856bd3968139c33f02c0ba0b2789f349bc97f6e", func := "loop.example/g03204/laws.FnExactSwingOk", spec := "fnExactSwingOk", apart := false }
def FnExactSwingOkSaid : Prop := fnExactSwingOkRow.holds Try.pinned (OpenSpec.ofChange fnExactSwingOkSpec)

/-- ITS FALSE NEIGHBOUR: 'it returns false'. Refute it at one input. -/
def fnExactSwingOkWrong : ChangeSpec := { name := "fnExactSwingOk", fn := fun _ => fun
  | [d1, d2] => { results := [.lit (.bool false)], args := [d1, d2] }
  | _ => none }
def FnExactSwingOkWrongFalsely : Prop := fnExactSwingOkRow.holds Try.pinned (OpenSpec.ofChange fnExactSwingOkWrong)

/-- 'laws.FnExactIsStraight': WHATEVER THE INPUT: true; the input reads as it did. -/
def fnExactIsStraightSpec : ChangeSpec := { name := "fnExactIsStraight", fn := fun _ => fun
  | [d1, d2] => { results := [.lit (.bool true)], args := [d1, d2] }
  | _ => none }
def fnExactIsStraightRow : OpenClaim := { program := "ytcladodjoneanaa", sum := "8b0b6ef52de622c93e16831fd856bd3968139c33f02c0ba0b2789f349bc97f6e", func := "loop.example/g03204/laws.FnExactIsStraight", spec := "fnExactIsStraight", apart := false }
def FnExactIsStraightSaid : Prop := fnExactIsStraightRow.holds Try.pinned (OpenSpec.ofChange fnExactIsStraightSpec)

/-- ITS FALSE NEIGHBOUR: 'it returns false'. Refute it at one input. -/
def fnExactIsStraightWrong : ChangeSpec := { name := "fnExactIsStraight", fn := fun _ => fun
  | [d1, d2] => { results := [.lit (.bool false)], args := [d1, d2] }
  | _ => none }
def FnExactIsStraightWrongFalsely : Prop := fnExactIsStraightRow.holds Try.pinned (OpenSpec.ofChange fnExactIsStraightWrong)

/-- 'laws.FnExactOppositeSwing': WHATEVER THE INPUT: true; the input reads as it did. -/
def fnExactOppositeSwingSpec : ChangeSpec := { name := "fnExactOppositeSwing", fn := fun _ => fun
  | [d1, d2] => { results := [.lit (.bool true)], args := [d1, d2] }
  | _ => none }
def fnExactOppositeSwingRow : OpenClaim := { program := "ytcladodjoneanaa", sum := "8b0b6ef52de622c93e16831fd856bd3968139c33f02c0ba0b2789f349bc97f6e", func := "loop.example/g03204/laws.FnExactOppositeSwing", spec := "fnExactOppositeSwing", apart := false }
def FnExactOppositeSwingSaid : Prop := fnExactOppositeSwingRow.holds Try.pinned (OpenSpec.ofChange fnExactOppositeSwingSpec)

/-- ITS FALSE NEIGHBOUR: 'it returns false'. Refute it at one input. -/
def fnExactOppositeSwingWrong : ChangeSpec := { name := "fnExactOppositeSwing", fn := fun _ => fun
  | [d1, d2] => { results := [.lit (.bool false)], args := [d1, d2] }
  | _ => none }
def FnExactOppositeSwingWrongFalsely : Prop := fnExactOppositeSwingRow.holds Try.pinned (OpenSpec.ofChange fnExactOppositeSwingWrong)

/-- 'laws.FnExactNearestTick': WHATEVER THE INPUT: true; the input reads as it did. -/
def fnExactNearestTickSpec : ChangeSpec := { name := "fnExactNearestTick", fn := fun _ => fun
  | [d1, d2] => { results := [.lit (.bool true)], args := [d1, d2] }
  | _ => none }
def fnExactNearestTickRow : OpenClaim := { program := "ytcladodjoneanaa", sum := "8b0b6ef52de622c93e16831fd856bd3968139c33f02c0ba0b2789f349bc97f6e", func := "loop.example/g03204/laws.FnExactNearestTick", spec := "fnExactNearestTick", apart := false }
def FnExactNearestTickSaid : Prop := fnExactNearestTickRow.holds Try.pinned (OpenSpec.ofChange fnExactNearestTickSpec)

/-- ITS FALSE NEIGHBOUR: 'it returns false'. Refute it at one input. -/
def fnExactNearestTickWrong : ChangeSpec := { name := "fnExactNearestTick", fn := fun _ => fun
  | [d1, d2] => { results := [.lit (.bool false)], args := [d1, d2] }
  | _ => none }
def FnExactNearestTickWrongFalsely : Prop := fnExactNearestTickRow.holds Try.pinned (OpenSpec.ofChange fnExactNearestTickWrong)

/-- 'laws.FnExactHalfPlace': WHATEVER THE INPUT: true; the input reads as it did. -/
def fnExactHalfPlaceSpec : ChangeSpec := { name := "fnExactHalfPlace", fn := fun _ => fun
  | [d1, d2] => { results := [.lit (.bool true)], args := [d1, d2] }
  | _ => none }
def fnExactHalfPlaceRow : OpenClaim := { program := "ytcladodjoneanaa", sum := "8b0b6ef52de622c93e16831fd856bd3968139c33f02c0ba0b2789f349bc97f6e", func := "loop.example/g03204/laws.FnExactHalfPlace", spec := "fnExactHalfPlace", apart := false }
def FnExactHalfPlaceSaid : Prop := fnExactHalfPlaceRow.holds Try.pinned (OpenSpec.ofChange fnExactHalfPlaceSpec)

/-- ITS FALSE NEIGHBOUR: 'it returns false'. Refute it at one input. -/
def fnExactHalfPlaceWrong : ChangeSpec := { name := "fnExactHalfPlace", fn := fun _ => fun
  | [d1, d2] => { results := [.lit (.bool false)], args := [d1, d2] }
  | _ => none }
def FnExactHalfPlaceWrongFalsely : Prop := fnExactHalfPlaceRow.holds Try.pinned (OpenSpec.ofChange fnExactHalfPlaceWrong)

/-- 'laws.FnExactRatioOk': WHATEVER THE INPUT: true; the input reads as it did. -/
def fnExactRatioOkSpec : ChangeSpec := { name := "fnExactRatioOk", fn := fun _ => fun
  | [d] => { results := [.lit (.bool true)], args := [d] }
  | _ => none }
def fnExactRatioOkRow : OpenClaim := { program := "ytcladodjoneanaa", sum := "8b0b6ef52de622c93e16831fd856bd3968139c33f02c0ba0b2789f349bc97f6e", func := "loop.example/g03204/laws.FnExactRatioOk", spec := "fnExactRatioOk", apart := false }
def FnExactRatioOkSaid : Prop := fnExactRatioOkRow.holds Try.pinned (OpenSpec.ofChange fnExactRatioOkSpec)

/-- ITS FALSE NEIGHBOUR: 'it returns false'. Refute it at one input. -/
def fnExactRatioOkWrong : ChangeSpec := { name := "fnExactRatioOk", fn := fun _ => fun
  | [d] => { results := [.lit (.bool false)], args := [d] }
  | _ => none }
def FnExactRatioOkWrongFalsely : Prop := fnExactRatioOkRow.holds Try.pinned (OpenSpec.ofChange fnExactRatioOkWrong)

/-- 'laws.FnExactSwingPlace': WHATEVER THE INPUT: true; the input reads as it did. -/
def fnExactSwingPlaceSpec : ChangeSpec := { name := "fnExactSwingPlace", fn := fun _ => fun
  | [d1, d2, d3] => { results := [.lit (.bool true)], args := [d1, d2, d3] }
  | _ => none }
def fnExactSwingPlaceRow : OpenClaim := { program := "ytcladodjoneanaa", sum := "8b0b6ef52de622c93e16831fd856bd3968139c33f02c0ba0b2789f349bc97f6e", func := "loop.example/g03204/laws.FnExactSwingPlace", spec := "fnExactSwingPlace", apart := false }
def FnExactSwingPlaceSaid : Prop := fnExactSwingPlaceRow.holds Try.pinned (OpenSpec.ofChange fnExactSwingPlaceSpec)

/-- ITS FALSE NEIGHBOUR: 'it returns false'. Refute it at one input. -/
def fnExactSwingPlaceWrong : ChangeSpec := { name := "fnExactSwingPlace", fn := fun _ => fun
  | [d1, d2, d3] => { results := [.lit (.bool false)], args := [d1, d2, d3] }
  | _ => none }
def FnExactSwingPlaceWrongFalsely : Prop := fnExactSwingPlaceRow.holds Try.pinned (OpenSpec.ofChange fnExactSwingPlaceWrong)

/-- 'laws.FnExactSwingTime': WHATEVER THE INPUT: true; the input reads as it did. -/
def fnExactSwingTimeSpec : ChangeSpec := { name := "fnExactSwingTime", fn := fun _ => fun
  | [d1, d2, d3] => { results := [.lit (.bool true)], args := [d1, d2, d3] }
  | _ => none }
def fnExactSwingTimeRow : OpenClaim := { program := "ytcladodjoneanaa", sum := "8b0b6ef52de622c93e16831fd856bd3968139c33f02c0ba0b2789f349bc97f6e", func := "loop.example/g03204/laws.FnExactSwingTime", spec := "fnExactSwingTime", apart := false }
def FnExactSwingTimeSaid : Prop := fnExactSwingTimeRow.holds Try.pinned (OpenSpec.ofChange fnExactSwingTimeSpec)

/-- ITS FALSE NEIGHBOUR: 'it returns false'. Refute it at one input. -/
def fnExactSwingTimeWrong : ChangeSpec := { name := "fnExactSwingTime", fn := fun _ => fun
  | [d1, d2, d3] => { results := [.lit (.bool false)], args := [d1, d2, d3] }
  | _ => none }
def FnExactSwingTimeWrongFalsely : Prop := fnExactSwingTimeRow.holds Try.pinned (OpenSpec.ofChange fnExactSwingTimeWrong)

/-- 'laws.FnExactStraightPlace': WHATEVER THE INPUT: true; the input reads as it did. -/
def fnExactStraightPlaceSpec : ChangeSpec := { name := "fnExactStraightPlace", fn := fun _ => fun
  | [d1, d2, d3] => { results := [.lit (.bool true)], args := [d1, d2, d3] }
  | _ => none }
def fnExactStraightPlaceRow : OpenClaim := { program := "ytcladodjoneanaa", sum := "8b0b6ef52de622c93e16831fd856bd3968139c33f02c0ba0b2789f349bc97f6e", func := "loop.example/g03204/laws.FnExactStraightPlace", spec := "fnExactStraightPlace", apart := false }
def FnExactStraightPlaceSaid : Prop := fnExactStraightPlaceRow.holds Try.pinned (OpenSpec.ofChange fnExactStraightPlaceSpec)

/-- ITS FALSE NEIGHBOUR: 'it returns false'. Refute it at one input. -/
def fnExactStraightPlaceWrong : ChangeSpec := { name := "fnExactStraightPlace", fn := fun _ => fun
  | [d1, d2, d3] => { results := [.lit (.bool false)], args := [d1, d2, d3] }
  | _ => none }
def FnExactStraightPlaceWrongFalsely : Prop := fnExactStraightPlaceRow.holds Try.pinned (OpenSpec.ofChange fnExactStraightPlaceWrong)

/-- 'laws.FnExactStraightTime': WHATEVER THE INPUT: true; the input reads as it did. -/
def fnExactStraightTimeSpec : ChangeSpec := { name := "fnExactStraightTime", fn := fun _ => fun
  | [d1, d2, d3] => { results := [.lit (.bool true)], args := [d1, d2, d3] }
  | _ => none }
def fnExactStraightTimeRow : OpenClaim := { program := "ytcladodjoneanaa", sum := "8b0b6ef52de622c93e16831fd856bd3968139c33f02c0ba0b2789f349bc97f6e", func := "loop.example/g03204/laws.FnExactStraightTime", spec := "fnExactStraightTime", apart := false }
def FnExactStraightTimeSaid : Prop := fnExactStraightTimeRow.holds Try.pinned (OpenSpec.ofChange fnExactStraightTimeSpec)

/-- ITS FALSE NEIGHBOUR: 'it returns false'. Refute it at one input. -/
def fnExactStraightTimeWrong : ChangeSpec := { name := "fnExactStraightTime", fn := fun _ => fun
  | [d1, d2, d3] => { results := [.lit (.bool false)], args := [d1, d2, d3] }
  | _ => none }
def FnExactStraightTimeWrongFalsely : Prop := fnExactStraightTimeRow.holds Try.pinned (OpenSpec.ofChange fnExactStraightTimeWrong)

/-- 'laws.FnExactSwingTimes': WHATEVER THE INPUT: true; the input reads as it did. -/
def fnExactSwingTimesSpec : ChangeSpec := { name := "fnExactSwingTimes", fn := fun _ => fun
  | [d1, d2, d3] => { results := [.lit (.bool true)], args := [d1, d2, d3] }
  | _ => none }
def fnExactSwingTimesRow : OpenClaim := { program := "ytcladodjoneanaa", sum := "8b0b6ef52de622c93e16831fd856bd3968139c33f02c0ba0b2789f349bc97f6e", func := "loop.example/g03204/laws.FnExactSwingTimes", spec := "fnExactSwingTimes", apart := false }
def FnExactSwingTimesSaid : Prop := fnExactSwingTimesRow.holds Try.pinned (OpenSpec.ofChange fnExactSwingTimesSpec)

/-- ITS FALSE NEIGHBOUR: 'it returns false'. Refute it at one input. -/
def fnExactSwingTimesWrong : ChangeSpec := { name := "fnExactSwingTimes", fn := fun _ => fun
  | [d1, d2, d3] => { results := [.lit (.bool false)], args := [d1, d2, d3] }
  | _ => none }
def FnExactSwingTimesWrongFalsely : Prop := fnExactSwingTimesRow.holds Try.pinned (OpenSpec.ofChange fnExactSwingTimesWrong)

/-- 'laws.FnSwing': WHATEVER THE INPUT: true; the input reads as it did. -/
def fnSwingSpec : ChangeSpec := { name := "fnSwing", fn := fun _ => fun
  | [d] => { results := [.lit (.bool true)], args := [d] }
  | _ => none }
def fnSwingRow : OpenClaim := { program := "ytcladodjoneanaa", sum := "8b0b6ef52de622c93e16831fd856bd3968139c33f02c0ba0b2789f349bc97f6e", func := "loop.example/g03204/laws.FnSwing", spec := "fnSwing", apart := false }
def FnSwingSaid : Prop := fnSwingRow.holds Try.pinned (OpenSpec.ofChange fnSwingSpec)

/-- ITS FALSE NEIGHBOUR: 'it returns false'. Refute it at one input. -/
def fnSwingWrong : ChangeSpec := { name := "fnSwing", fn := fun _ => fun
  | [d] => { results := [.lit (.bool false)], args := [d] }
  | _ => none }
def FnSwingWrongFalsely : Prop := fnSwingRow.holds Try.pinned (OpenSpec.ofChange fnSwingWrong)

/- THE SECOND FORM. 'bulk': how many values and letters a reading holds, each counted each time it is reached (what is shared counts as often as it is met; a slice's spare places count too). A statement '..UptoSaid' is the law's where the arguments, and the package variables that the reading takes, are together of bulk at most 1048576: NARROWER than '..Said'. Prove '..Said' where nothing that the law and all that it calls make is longer than what came in: it says more and counts as full. Else prove '..UptoSaid'. A law counts once. -/
mutual
def uptoBulk {H : Type} : DataW H → Nat
  | .lit (.string bytes) => bytes.length + 1
  | .lit _ => 1
  | .nil => 1
  | .ptr d => uptoBulk d + 1
  | .slice elems spare => uptoBulkAll elems + uptoBulkAll spare + 1
  | .agg parts => uptoBulkAll parts + 1
  | .iface _ d => uptoBulk d + 1
  | .map entries => uptoBulkEntries entries + 1
  | .held _ => 1
def uptoBulkAll {H : Type} : List (DataW H) → Nat
  | [] => 0
  | d :: r => uptoBulk d + uptoBulkAll r
def uptoBulkEntries {H : Type} : List (Lit × DataW H) → Nat
  | [] => 0
  | x :: r => uptoBulkEntry x + uptoBulkEntries r
def uptoBulkEntry {H : Type} : Lit × DataW H → Nat
  | (.string bytes, d) => bytes.length + uptoBulk d + 1
  | (_, d) => uptoBulk d + 1
 end
def uptoSmall : (H : Type) → List (DataW H) → Bool := fun _ ds => decide (uptoBulkAll ds ≤ 1048576)
def OpenSpec.upto (s : _root_.Go.ChangeSpec) : _root_.Go.OpenSpec := { _root_.Go.OpenSpec.ofChange s with cond := some uptoSmall }

/-- 'laws.FnExactSwingOk', WHERE WHAT IT READS IS OF BULK AT MOST 1048576: true; the input reads as it did. -/
def fnExactSwingOkUptoRow : OpenClaim := { program := "ytcladodjoneanaa", sum := "8b0b6ef52de622c93e16831fd856bd3968139c33f02c0ba0b2789f349bc97f6e", func := "loop.example/g03204/laws.FnExactSwingOk", spec := "fnExactSwingOk", apart := false, narrowed := true }
def FnExactSwingOkUptoSaid : Prop := fnExactSwingOkUptoRow.holds Try.pinned (OpenSpec.upto fnExactSwingOkSpec)

/-- 'laws.FnExactIsStraight', WHERE WHAT IT READS IS OF BULK AT MOST 1048576: true; the input reads as it did. -/
def fnExactIsStraightUptoRow : OpenClaim := { program := "ytcladodjoneanaa", sum := "8b0b6ef52de622c93e16831fd856bd3968139c33f02c0ba0b2789f349bc97f6e", func := "loop.example/g03204/laws.FnExactIsStraight", spec := "fnExactIsStraight", apart := false, narrowed := true }
def FnExactIsStraightUptoSaid : Prop := fnExactIsStraightUptoRow.holds Try.pinned (OpenSpec.upto fnExactIsStraightSpec)

/-- 'laws.FnExactOppositeSwing', WHERE WHAT IT READS IS OF BULK AT MOST 1048576: true; the input reads as it did. -/
def fnExactOppositeSwingUptoRow : OpenClaim := { program := "ytcladodjoneanaa", sum := "8b0b6ef52de622c93e16831fd856bd3968139c33f02c0ba0b2789f349bc97f6e", func := "loop.example/g03204/laws.FnExactOppositeSwing", spec := "fnExactOppositeSwing", apart := false, narrowed := true }
def FnExactOppositeSwingUptoSaid : Prop := fnExactOppositeSwingUptoRow.holds Try.pinned (OpenSpec.upto fnExactOppositeSwingSpec)

/-- 'laws.FnExactNearestTick', WHERE WHAT IT READS IS OF BULK AT MOST 1048576: true; the input reads as it did. -/
def fnExactNearestTickUptoRow : OpenClaim := { program := "ytcladodjoneanaa", sum := "8b0b6ef52de622c93e16831fd856bd3968139c33f02c0ba0b2789f349bc97f6e", func := "loop.example/g03204/laws.FnExactNearestTick", spec := "fnExactNearestTick", apart := false, narrowed := true }
def FnExactNearestTickUptoSaid : Prop := fnExactNearestTickUptoRow.holds Try.pinned (OpenSpec.upto fnExactNearestTickSpec)

/-- 'laws.FnExactHalfPlace', WHERE WHAT IT READS IS OF BULK AT MOST 1048576: true; the input reads as it did. -/
def fnExactHalfPlaceUptoRow : OpenClaim := { program := "ytcladodjoneanaa", sum := "8b0b6ef52de622c93e16831fd856bd3968139c33f02c0ba0b2789f349bc97f6e", func := "loop.example/g03204/laws.FnExactHalfPlace", spec := "fnExactHalfPlace", apart := false, narrowed := true }
def FnExactHalfPlaceUptoSaid : Prop := fnExactHalfPlaceUptoRow.holds Try.pinned (OpenSpec.upto fnExactHalfPlaceSpec)

/-- 'laws.FnExactRatioOk', WHERE WHAT IT READS IS OF BULK AT MOST 1048576: true; the input reads as it did. -/
def fnExactRatioOkUptoRow : OpenClaim := { program := "ytcladodjoneanaa", sum := "8b0b6ef52de622c93e16831fd856bd3968139c33f02c0ba0b2789f349bc97f6e", func := "loop.example/g03204/laws.FnExactRatioOk", spec := "fnExactRatioOk", apart := false, narrowed := true }
def FnExactRatioOkUptoSaid : Prop := fnExactRatioOkUptoRow.holds Try.pinned (OpenSpec.upto fnExactRatioOkSpec)

/-- 'laws.FnExactSwingPlace', WHERE WHAT IT READS IS OF BULK AT MOST 1048576: true; the input reads as it did. -/
def fnExactSwingPlaceUptoRow : OpenClaim := { program := "ytcladodjoneanaa", sum := "8b0b6ef52de622c93e16831fd856bd3968139c33f02c0ba0b2789f349bc97f6e", func := "loop.example/g03204/laws.FnExactSwingPlace", spec := "fnExactSwingPlace", apart := false, narrowed := true }
def FnExactSwingPlaceUptoSaid : Prop := fnExactSwingPlaceUptoRow.holds Try.pinned (OpenSpec.upto fnExactSwingPlaceSpec)

/-- 'laws.FnExactSwingTime', WHERE WHAT IT READS IS OF BULK AT MOST 1048576: true; the input reads as it did. -/
def fnExactSwingTimeUptoRow : OpenClaim := { program := "ytcladodjoneanaa", sum := "8b0b6ef52de622c93e16831fd856bd3968139c33f02c0ba0b2789f349bc97f6e", func := "loop.example/g03204/laws.FnExactSwingTime", spec := "fnExactSwingTime", apart := false, narrowed := true }
def FnExactSwingTimeUptoSaid : Prop := fnExactSwingTimeUptoRow.holds Try.pinned (OpenSpec.upto fnExactSwingTimeSpec)

/-- 'laws.FnExactStraightPlace', WHERE WHAT IT READS IS OF BULK AT MOST 1048576: true; the input reads as it did. -/
def fnExactStraightPlaceUptoRow : OpenClaim := { program := "ytcladodjoneanaa", sum := "8b0b6ef52de622c93e16831fd856bd3968139c33f02c0ba0b2789f349bc97f6e", func := "loop.example/g03204/laws.FnExactStraightPlace", spec := "fnExactStraightPlace", apart := false, narrowed := true }
def FnExactStraightPlaceUptoSaid : Prop := fnExactStraightPlaceUptoRow.holds Try.pinned (OpenSpec.upto fnExactStraightPlaceSpec)

/-- 'laws.FnExactStraightTime', WHERE WHAT IT READS IS OF BULK AT MOST 1048576: true; the input reads as it did. -/
def fnExactStraightTimeUptoRow : OpenClaim := { program := "ytcladodjoneanaa", sum := "8b0b6ef52de622c93e16831fd856bd3968139c33f02c0ba0b2789f349bc97f6e", func := "loop.example/g03204/laws.FnExactStraightTime", spec := "fnExactStraightTime", apart := false, narrowed := true }
def FnExactStraightTimeUptoSaid : Prop := fnExactStraightTimeUptoRow.holds Try.pinned (OpenSpec.upto fnExactStraightTimeSpec)

/-- 'laws.FnExactSwingTimes', WHERE WHAT IT READS IS OF BULK AT MOST 1048576: true; the input reads as it did. -/
def fnExactSwingTimesUptoRow : OpenClaim := { program := "ytcladodjoneanaa", sum := "8b0b6ef52de622c93e16831fd856bd3968139c33f02c0ba0b2789f349bc97f6e", func := "loop.example/g03204/laws.FnExactSwingTimes", spec := "fnExactSwingTimes", apart := false, narrowed := true }
def FnExactSwingTimesUptoSaid : Prop := fnExactSwingTimesUptoRow.holds Try.pinned (OpenSpec.upto fnExactSwingTimesSpec)

/-- 'laws.FnSwing', WHERE WHAT IT READS IS OF BULK AT MOST 1048576: true; the input reads as it did. -/
def fnSwingUptoRow : OpenClaim := { program := "ytcladodjoneanaa", sum := "8b0b6ef52de622c93e16831fd856bd3968139c33f02c0ba0b2789f349bc97f6e", func := "loop.example/g03204/laws.FnSwing", spec := "fnSwing", apart := false, narrowed := true }
def FnSwingUptoSaid : Prop := fnSwingUptoRow.holds Try.pinned (OpenSpec.upto fnSwingSpec)

end Rows
end Go.Proofs.Ytcladodjoneanaa
