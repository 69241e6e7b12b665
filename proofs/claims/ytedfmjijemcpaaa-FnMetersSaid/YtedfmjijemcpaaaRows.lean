/-
  No cell of these rows narrows 'for every input' (looked for: loops, veiled, ifaces, maps, wideKeys, modest, calm, conditions, laid).
  DERIVED. THE GIVEN ROWS OF THIS SEAT. 2 by the template 'for every input the law returns true; each argument reads behind the call as it read before'; 0 by the template 'total and deterministic' (their statements: YtedfmjijemcpaaaTotals.lean).
  GIVEN WITH THE SEED: the statements are not yours to turn. If you find one false, say at which input.
  Laid BY PROGRAM, IN A SANDBOX (cutbox-rows.mjs): the forced cells as the released guide's own fill.sh prints them over the translation 727e45a8e06b5369… (all of the seat's roots in one cut). By AI agents, Wed Nov 11 2026. No macro, syntax, notation, axiom, sorry.
-/
import Derived.Test.YtedfmjijemcpaaaChecked
import GoSem.Claim
import GoSem.ClaimJoined
import GoSem.ClaimMapViews
import Derived.JoinedTies
import Derived.KernelRfl
namespace Go.Proofs.Ytedfmjijemcpaaa
/- THE CELL 'sum', in the pinned program and in every row, IS THE sha256 OF THE DUMP (.gsa) THAT YtedfmjijemcpaaaProg.lean LOADS. Nothing in Lean hashes anything: it is a label: what it is worth is what the hold of that sum in a sandbox is worth. -/
noncomputable def Try.pinned : Pinned := { name := "ytedfmjijemcpaaa", sum := "727e45a8e06b5369ab3e7fafc736d5526c1204e4896d9400305d6932b07ab0ce", checked := Try.checked }
namespace Rows
def none {H : Type} : Left H := { results := [], args := [] }

/-- 'laws.FnMeters': WHATEVER THE INPUT: true; the input reads as it did. -/
def fnMetersSpec : ChangeSpec := { name := "fnMeters", fn := fun _ => fun
  | [d] => { results := [.lit (.bool true)], args := [d] }
  | _ => none }
def fnMetersRow : OpenClaim := { program := "ytedfmjijemcpaaa", sum := "727e45a8e06b5369ab3e7fafc736d5526c1204e4896d9400305d6932b07ab0ce", func := "loop.example/g03204/laws.FnMeters", spec := "fnMeters", unfollowed := true, recurses := true, apart := false }
def FnMetersSaid : Prop := fnMetersRow.holds Try.pinned (OpenSpec.ofChange fnMetersSpec)

/-- ITS FALSE NEIGHBOUR: 'it returns false'. Refute it at one input. -/
def fnMetersWrong : ChangeSpec := { name := "fnMeters", fn := fun _ => fun
  | [d] => { results := [.lit (.bool false)], args := [d] }
  | _ => none }
def FnMetersWrongFalsely : Prop := fnMetersRow.holds Try.pinned (OpenSpec.ofChange fnMetersWrong)

/-- 'laws.FnExactBestMeter': WHATEVER THE INPUT: true; the input reads as it did. -/
def fnExactBestMeterSpec : ChangeSpec := { name := "fnExactBestMeter", fn := fun _ => fun
  | [d] => { results := [.lit (.bool true)], args := [d] }
  | _ => none }
def fnExactBestMeterRow : OpenClaim := { program := "ytedfmjijemcpaaa", sum := "727e45a8e06b5369ab3e7fafc736d5526c1204e4896d9400305d6932b07ab0ce", func := "loop.example/g03204/laws.FnExactBestMeter", spec := "fnExactBestMeter", unfollowed := true, recurses := true, apart := false }
def FnExactBestMeterSaid : Prop := fnExactBestMeterRow.holds Try.pinned (OpenSpec.ofChange fnExactBestMeterSpec)

/-- ITS FALSE NEIGHBOUR: 'it returns false'. Refute it at one input. -/
def fnExactBestMeterWrong : ChangeSpec := { name := "fnExactBestMeter", fn := fun _ => fun
  | [d] => { results := [.lit (.bool false)], args := [d] }
  | _ => none }
def FnExactBestMeterWrongFalsely : Prop := fnExactBestMeterRow.holds Try.pinned (OpenSpec.ofChange fnExactBestMeterWrong)

/- THE SECOND FORM. 'bulk': how many values and letters a reading holds, each counted each time it is reached (what is shared counts as often as it is met; a slice's spare places count too). A statement '..UptoSaid' is the law's where the arguments, and the package variables that the reading takes, are together of bulk at most 1048576: NARROWER than '..Said'. Prove '..Said' where nothing that the law and all that it calls make is longer than what came in: it says more and counts as full. Else prove '..UptoSaid'. A law counts once. -/
mutual
def uptoBulk {H : Type} : DataW H → Nat
  | .lit (.string bytes) => bytes.length + 1
  | .lit _ => 1
  | .nil => 1
  | .ptr d => uptoBulk d + 1
  | .slice elems spare => uptoBulkAll elems + uptoBulkAll spare + 1
  | .agg parts => uptoBulkAll parts + 1
  | .iface _ d => uptoBulk d + 1
  | .map entries => uptoBulkEntries entries + 1
  | .held _ => 1
def uptoBulkAll {H : Type} : List (DataW H) → Nat
  | [] => 0
  | d :: r => uptoBulk d + uptoBulkAll r
def uptoBulkEntries {H : Type} : List (Lit × DataW H) → Nat
  | [] => 0
  | x :: r => uptoBulkEntry x + uptoBulkEntries r
def uptoBulkEntry {H : Type} : Lit × DataW H → Nat
  | (.string bytes, d) => bytes.length + uptoBulk d + 1
  | (_, d) => uptoBulk d + 1
 end
def uptoSmall : (H : Type) → List (DataW H) → Bool := fun _ ds => decide (uptoBulkAll ds ≤ 1048576)
def OpenSpec.upto (s : _root_.Go.ChangeSpec) : _root_.Go.OpenSpec := { _root_.Go.OpenSpec.ofChange s with cond := some uptoSmall }

/-- 'laws.FnMeters', WHERE WHAT IT READS IS OF BULK AT MOST 1048576: true; the input reads as it did. -/
def fnMetersUptoRow : OpenClaim := { program := "ytedfmjijemcpaaa", sum := "727e45a8e06b5369ab3e7fafc736d5526c1204e4896d9400305d6932b07ab0ce", func := "loop.example/g03204/laws.FnMeters", spec := "fnMeters", unfollowed := true, recurses := true, apart := false, narrowed := true }
def FnMetersUptoSaid : Prop := fnMetersUptoRow.holds Try.pinned (OpenSpec.upto fnMetersSpec)

/-- 'laws.FnExactBestMeter', WHERE WHAT IT READS IS OF BULK AT MOST 1048576: true; the input reads as it did. -/
def fnExactBestMeterUptoRow : OpenClaim := { program := "ytedfmjijemcpaaa", sum := "727e45a8e06b5369ab3e7fafc736d5526c1204e4896d9400305d6932b07ab0ce", func := "loop.example/g03204/laws.FnExactBestMeter", spec := "fnExactBestMeter", unfollowed := true, recurses := true, apart := false, narrowed := true }
def FnExactBestMeterUptoSaid : Prop := fnExactBestMeterUptoRow.holds Try.pinned (OpenSpec.upto fnExactBestMeterSpec)

end Rows
end Go.Proofs.Ytedfmjijemcpaaa
