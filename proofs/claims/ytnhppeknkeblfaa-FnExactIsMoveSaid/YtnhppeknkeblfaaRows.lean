/-
  No cell of these rows narrows 'for every input' (looked for: loops, veiled, ifaces, maps, wideKeys, modest, calm, conditions, laid).
  DERIVED. THE GIVEN ROWS OF THIS SEAT. 4 by the template 'for every input the law returns true; each argument reads behind the call as it read before'; 0 by the template 'total and deterministic' (their statements: YtnhppeknkeblfaaTotals.lean).
  GIVEN WITH THE SEED: the statements are not yours to turn. If you find one false, say at which input.
  Laid BY PROGRAM, IN A SANDBOX (cutbox-rows.mjs): the forced cells as the released guide's own fill.sh prints them over the translation c1ac89c15b02f017… (all of the seat's roots in one cut). By AI agents, Wed Nov 11 2026. No macro, syntax, notation, axiom, sorry.
-/
import Derived.Test.YtnhppeknkeblfaaChecked
import GoSem.Claim
import GoSem.ClaimJoined
import GoSem.ClaimMapViews
import Derived.JoinedTies
import Derived.KernelRfl
namespace Go.Proofs.Ytnhppeknkeblfaa
/- THE CELL 'sum', in the pinned program and in every row, IS THE sha256 OF THE DUMP (.gsa) THAT YtnhppeknkeblfaaProg.lean LOADS. Nothing in Lean hashes anything: it is a label: what it is worth is what the hold of that sum in a sandbox is worth. -/
noncomputable def Try.pinned : Pinned := { name := "ytnhppeknkeblfaa", sum := "c1ac89c15b02f017c084ef479f004cb5e9d4ef0157f241ad7f58309b964989ca", checked := Try.checked }
namespace Rows
def none {H : Type} : Left H := { results := [], args := [] }

/-- 'laws.FnExactMoveDistance': WHATEVER THE INPUT: true; the input reads as it did. -/
def fnExactMoveDistanceSpec : ChangeSpec := { name := "fnExactMoveDistance", fn := fun _ => fun
  | [d1, d2] => { results := [.lit (.bool true)], args := [d1, d2] }
  | _ => none }
def fnExactMoveDistanceRow : OpenClaim := { program := "ytnhppeknkeblfaa", sum := "c1ac89c15b02f017c084ef479f004cb5e9d4ef0157f241ad7f58309b964989ca", func := "loop.example/g03204/laws.FnExactMoveDistance", spec := "fnExactMoveDistance", apart := false }
def FnExactMoveDistanceSaid : Prop := fnExactMoveDistanceRow.holds Try.pinned (OpenSpec.ofChange fnExactMoveDistanceSpec)

/-- ITS FALSE NEIGHBOUR: 'it returns false'. Refute it at one input. -/
def fnExactMoveDistanceWrong : ChangeSpec := { name := "fnExactMoveDistance", fn := fun _ => fun
  | [d1, d2] => { results := [.lit (.bool false)], args := [d1, d2] }
  | _ => none }
def FnExactMoveDistanceWrongFalsely : Prop := fnExactMoveDistanceRow.holds Try.pinned (OpenSpec.ofChange fnExactMoveDistanceWrong)

/-- 'laws.FnExactMostMoves': WHATEVER THE INPUT: true; the input reads as it did. -/
def fnExactMostMovesSpec : ChangeSpec := { name := "fnExactMostMoves", fn := fun _ => fun
  | [d1, d2] => { results := [.lit (.bool true)], args := [d1, d2] }
  | _ => none }
def fnExactMostMovesRow : OpenClaim := { program := "ytnhppeknkeblfaa", sum := "c1ac89c15b02f017c084ef479f004cb5e9d4ef0157f241ad7f58309b964989ca", func := "loop.example/g03204/laws.FnExactMostMoves", spec := "fnExactMostMoves", unfollowed := true, recurses := true, apart := false }
def FnExactMostMovesSaid : Prop := fnExactMostMovesRow.holds Try.pinned (OpenSpec.ofChange fnExactMostMovesSpec)

/-- ITS FALSE NEIGHBOUR: 'it returns false'. Refute it at one input. -/
def fnExactMostMovesWrong : ChangeSpec := { name := "fnExactMostMoves", fn := fun _ => fun
  | [d1, d2] => { results := [.lit (.bool false)], args := [d1, d2] }
  | _ => none }
def FnExactMostMovesWrongFalsely : Prop := fnExactMostMovesRow.holds Try.pinned (OpenSpec.ofChange fnExactMostMovesWrong)

/-- 'laws.FnExactFewestMoves': WHATEVER THE INPUT: true; the input reads as it did. -/
def fnExactFewestMovesSpec : ChangeSpec := { name := "fnExactFewestMoves", fn := fun _ => fun
  | [d] => { results := [.lit (.bool true)], args := [d] }
  | _ => none }
def fnExactFewestMovesRow : OpenClaim := { program := "ytnhppeknkeblfaa", sum := "c1ac89c15b02f017c084ef479f004cb5e9d4ef0157f241ad7f58309b964989ca", func := "loop.example/g03204/laws.FnExactFewestMoves", spec := "fnExactFewestMoves", unfollowed := true, recurses := true, apart := false }
def FnExactFewestMovesSaid : Prop := fnExactFewestMovesRow.holds Try.pinned (OpenSpec.ofChange fnExactFewestMovesSpec)

/-- ITS FALSE NEIGHBOUR: 'it returns false'. Refute it at one input. -/
def fnExactFewestMovesWrong : ChangeSpec := { name := "fnExactFewestMoves", fn := fun _ => fun
  | [d] => { results := [.lit (.bool false)], args := [d] }
  | _ => none }
def FnExactFewestMovesWrongFalsely : Prop := fnExactFewestMovesRow.holds Try.pinned (OpenSpec.ofChange fnExactFewestMovesWrong)

/-- 'laws.FnExactIsMove': WHATEVER THE INPUT: true; the input reads as it did. -/
def fnExactIsMoveSpec : ChangeSpec := { name := "fnExactIsMove", fn := fun _ => fun
  | [d1, d2] => { results := [.lit (.bool true)], args := [d1, d2] }
  | _ => none }
def fnExactIsMoveRow : OpenClaim := { program := "ytnhppeknkeblfaa", sum := "c1ac89c15b02f017c084ef479f004cb5e9d4ef0157f241ad7f58309b964989ca", func := "loop.example/g03204/laws.FnExactIsMove", spec := "fnExactIsMove", unfollowed := true, recurses := true, apart := false }
def FnExactIsMoveSaid : Prop := fnExactIsMoveRow.holds Try.pinned (OpenSpec.ofChange fnExactIsMoveSpec)

/-- ITS FALSE NEIGHBOUR: 'it returns false'. Refute it at one input. -/
def fnExactIsMoveWrong : ChangeSpec := { name := "fnExactIsMove", fn := fun _ => fun
  | [d1, d2] => { results := [.lit (.bool false)], args := [d1, d2] }
  | _ => none }
def FnExactIsMoveWrongFalsely : Prop := fnExactIsMoveRow.holds Try.pinned (OpenSpec.ofChange fnExactIsMoveWrong)

/- THE SECOND FORM. 'bulk': how many values and letters a reading holds, each counted each time it is reached (what is shared counts as often as it is met; a slice's spare places count too). A statement '..UptoSaid' is the law's where the arguments, and the package variables that the reading takes, are together of bulk at most 1048576: NARROWER than '..Said'. Prove '..Said' where nothing that the law and all that it calls make is longer than what came in: it says more and counts as full. Else prove '..UptoSaid'. A law counts once. -/
mutual
def uptoBulk {H : Type} : DataW H → Nat
  | .lit (.string bytes) => bytes.length + 1
  | .lit _ => 1
  | .nil => 1
  | .ptr d => uptoBulk d + 1
  | .slice elems spare => uptoBulkAll elems + uptoBulkAll spare + 1
  | .agg parts => uptoBulkAll parts + 1
  | .iface _ d => uptoBulk d + 1
  | .map entries => uptoBulkEntries entries + 1
  | .held _ => 1
def uptoBulkAll {H : Type} : List (DataW H) → Nat
  | [] => 0
  | d :: r => uptoBulk d + uptoBulkAll r
def uptoBulkEntries {H : Type} : List (Lit × DataW H) → Nat
  | [] => 0
  | x :: r => uptoBulkEntry x + uptoBulkEntries r
def uptoBulkEntry {H : Type} : Lit × DataW H → Nat
  | (.string bytes, d) => bytes.length + uptoBulk d + 1
  | (_, d) => uptoBulk d + 1
 end
def uptoSmall : (H : Type) → List (DataW H) → Bool := fun _ ds => decide (uptoBulkAll ds ≤ 1048576)
def OpenSpec.upto (s : _root_.Go.ChangeSpec) : _root_.Go.OpenSpec := { _root_.Go.OpenSpec.ofChange s with cond := some uptoSmall }

/-- 'laws.FnExactMoveDistance', WHERE WHAT IT READS IS OF BULK AT MOST 1048576: true; the input reads as it did. -/
def fnExactMoveDistanceUptoRow : OpenClaim := { program := "ytnhppeknkeblfaa", sum := "c1ac89c15b02f017c084ef479f004cb5e9d4ef0157f241ad7f58309b964989ca", func := "loop.example/g03204/laws.FnExactMoveDistance", spec := "fnExactMoveDistance", apart := false, narrowed := true }
def FnExactMoveDistanceUptoSaid : Prop := fnExactMoveDistanceUptoRow.holds Try.pinned (OpenSpec.upto fnExactMoveDistanceSpec)

/-- 'laws.FnExactMostMoves', WHERE WHAT IT READS IS OF BULK AT MOST 1048576: true; the input reads as it did. -/
def fnExactMostMovesUptoRow : OpenClaim := { program := "ytnhppeknkeblfaa", sum := "c1ac89c15b02f017c084ef479f004cb5e9d4ef0157f241ad7f58309b964989ca", func := "loop.example/g03204/laws.FnExactMostMoves", spec := "fnExactMostMoves", unfollowed := true, recurses := true, apart := false, narrowed := true }
def FnExactMostMovesUptoSaid : Prop := fnExactMostMovesUptoRow.holds Try.pinned (OpenSpec.upto fnExactMostMovesSpec)

/-- 'laws.FnExactFewestMoves', WHERE WHAT IT READS IS OF BULK AT MOST 1048576: true; the input reads as it did. -/
def fnExactFewestMovesUptoRow : OpenClaim := { program := "ytnhppeknkeblfaa", sum := "c1ac89c15b02f017c084ef479f004cb5e9d4ef0157f241ad7f58309b964989ca", func := "loop.example/g03204/laws.FnExactFewestMoves", spec := "fnExactFewestMoves", unfollowed := true, recurses := true, apart := false, narrowed := true }
def FnExactFewestMovesUptoSaid : Prop := fnExactFewestMovesUptoRow.holds Try.pinned (OpenSpec.upto fnExactFewestMovesSpec)

/-- 'laws.FnExactIsMove', WHERE WHAT IT READS IS OF BULK AT MOST 1048576: true; the input reads as it did. -/
def fnExactIsMoveUptoRow : OpenClaim := { program := "ytnhppeknkeblfaa", sum := "c1ac89c15b02f017c084ef479f004cb5e9d4ef0157f241ad7f58309b964989ca", func := "loop.example/g03204/laws.FnExactIsMove", spec := "fnExactIsMove", unfollowed := true, recurses := true, apart := false, narrowed := true }
def FnExactIsMoveUptoSaid : Prop := fnExactIsMoveUptoRow.holds Try.pinned (OpenSpec.upto fnExactIsMoveSpec)

end Rows
end Go.Proofs.Ytnhppeknkeblfaa
