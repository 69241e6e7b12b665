/-
  No cell of these rows narrows 'for every input' (looked for: loops, veiled, ifaces, maps, wideKeys, modest, calm, conditions, laid).
  DERIVED. THE GIVEN ROWS OF THIS SEAT. 8 by the template 'for every input the law returns true; each argument reads behind the call as it read before'; 0 by the template 'total and deterministic' (their statements: YtphpdanohooccaaTotals.lean).
  GIVEN WITH THE SEED: the statements are not yours to turn. If you find one false, say at which input.
  Laid BY PROGRAM, IN A SANDBOX (cutbox-rows.mjs): the forced cells as the released guide's own fill.sh prints them over the translation 436b6ce081dcb27f… (all of the seat's roots in one cut). By AI agents, Wed Nov 11 2026. No macro, syntax, notation, axiom, sorry.
-/
import Derived.Test.YtphpdanohooccaaChecked
import GoSem.Claim
import GoSem.ClaimJoined
import GoSem.ClaimMapViews
import Derived.JoinedTies
import Derived.KernelRfl
namespace Go.Proofs.Ytphpdanohooccaa
/- THE CELL 'sum', in the pinned program and in every row, IS THE sha256 OF THE DUMP (.gsa) THAT YtphpdanohooccaaProg.lean LOADS. Nothing in Lean hashes anything: it is a label: what it is worth is what the hold of that sum in a sandbox is worth. -/
noncomputable def Try.pinned : Pinned := { name := "ytphpdanohooccaa", sum := "436b6ce081dcb27f12eebba7750ad10d908c5bda17277910cb10f43748d2f76d", checked := Try.checked }
namespace Rows
def none {H : Type} : Left H := { results := [], args := [] }

/-- 'laws.FnExactUnitsOf': WHATEVER THE INPUT: true; the input reads as it did. -/
def fnExactUnitsOfSpec : ChangeSpec := { name := "fnExactUnitsOf", fn := fun _ => fun
  | [d] => { results := [.lit (.bool true)], args := [d] }
  | _ => none }
def fnExactUnitsOfRow : OpenClaim := { program := "ytphpdanohooccaa", sum := "436b6ce081dcb27f12eebba7750ad10d908c5bda17277910cb10f43748d2f76d", func := "loop.example/g03204/laws.FnExactUnitsOf", spec := "fnExactUnitsOf", apart := false }
def FnExactUnitsOfSaid : Prop := fnExactUnitsOfRow.holds Try.pinned (OpenSpec.ofChange fnExactUnitsOfSpec)

/-- ITS FALSE NEIGHBOUR: 'it returns false'. Refute it at one input. -/
def fnExactUnitsOfWrong : ChangeSpec := { name := "fnExactUnitsOf", fn := fun _ => fun
  | [d] => { results := [.lit (.bool false)], args := [d] }
  | _ => none }
def FnExactUnitsOfWrongFalsely : Prop := fnExactUnitsOfRow.holds Try.pinned (OpenSpec.ofChange fnExactUnitsOfWrong)

/-- 'laws.FnExactCountNecklaces': WHATEVER THE INPUT: true; the input reads as it did. -/
def fnExactCountNecklacesSpec : ChangeSpec := { name := "fnExactCountNecklaces", fn := fun _ => fun
  | [d1, d2] => { results := [.lit (.bool true)], args := [d1, d2] }
  | _ => none }
def fnExactCountNecklacesRow : OpenClaim := { program := "ytphpdanohooccaa", sum := "436b6ce081dcb27f12eebba7750ad10d908c5bda17277910cb10f43748d2f76d", func := "loop.example/g03204/laws.FnExactCountNecklaces", spec := "fnExactCountNecklaces", apart := false }
def FnExactCountNecklacesSaid : Prop := fnExactCountNecklacesRow.holds Try.pinned (OpenSpec.ofChange fnExactCountNecklacesSpec)

/-- ITS FALSE NEIGHBOUR: 'it returns false'. Refute it at one input. -/
def fnExactCountNecklacesWrong : ChangeSpec := { name := "fnExactCountNecklaces", fn := fun _ => fun
  | [d1, d2] => { results := [.lit (.bool false)], args := [d1, d2] }
  | _ => none }
def FnExactCountNecklacesWrongFalsely : Prop := fnExactCountNecklacesRow.holds Try.pinned (OpenSpec.ofChange fnExactCountNecklacesWrong)

/-- 'laws.FnExactCountBracelets': WHATEVER THE INPUT: true; the input reads as it did. -/
def fnExactCountBraceletsSpec : ChangeSpec := { name := "fnExactCountBracelets", fn := fun _ => fun
  | [d1, d2] => { results := [.lit (.bool true)], args := [d1, d2] }
  | _ => none }
def fnExactCountBraceletsRow : OpenClaim := { program := "ytphpdanohooccaa", sum := "436b6ce081dcb27f12eebba7750ad10d908c5bda17277910cb10f43748d2f76d", func := "loop.example/g03204/laws.FnExactCountBracelets", spec := "fnExactCountBracelets", apart := false }
def FnExactCountBraceletsSaid : Prop := fnExactCountBraceletsRow.holds Try.pinned (OpenSpec.ofChange fnExactCountBraceletsSpec)

/-- ITS FALSE NEIGHBOUR: 'it returns false'. Refute it at one input. -/
def fnExactCountBraceletsWrong : ChangeSpec := { name := "fnExactCountBracelets", fn := fun _ => fun
  | [d1, d2] => { results := [.lit (.bool false)], args := [d1, d2] }
  | _ => none }
def FnExactCountBraceletsWrongFalsely : Prop := fnExactCountBraceletsRow.holds Try.pinned (OpenSpec.ofChange fnExactCountBraceletsWrong)

/-- 'laws.FnExactStabilizerSize': WHATEVER THE INPUT: true; the input reads as it did. -/
def fnExactStabilizerSizeSpec : ChangeSpec := { name := "fnExactStabilizerSize", fn := fun _ => fun
  | [d] => { results := [.lit (.bool true)], args := [d] }
  | _ => none }
def fnExactStabilizerSizeRow : OpenClaim := { program := "ytphpdanohooccaa", sum := "436b6ce081dcb27f12eebba7750ad10d908c5bda17277910cb10f43748d2f76d", func := "loop.example/g03204/laws.FnExactStabilizerSize", spec := "fnExactStabilizerSize", unfollowed := true, recurses := true, apart := false }
def FnExactStabilizerSizeSaid : Prop := fnExactStabilizerSizeRow.holds Try.pinned (OpenSpec.ofChange fnExactStabilizerSizeSpec)

/-- ITS FALSE NEIGHBOUR: 'it returns false'. Refute it at one input. -/
def fnExactStabilizerSizeWrong : ChangeSpec := { name := "fnExactStabilizerSize", fn := fun _ => fun
  | [d] => { results := [.lit (.bool false)], args := [d] }
  | _ => none }
def FnExactStabilizerSizeWrongFalsely : Prop := fnExactStabilizerSizeRow.holds Try.pinned (OpenSpec.ofChange fnExactStabilizerSizeWrong)

/-- 'laws.FnExactOrbitSize': WHATEVER THE INPUT: true; the input reads as it did. -/
def fnExactOrbitSizeSpec : ChangeSpec := { name := "fnExactOrbitSize", fn := fun _ => fun
  | [d] => { results := [.lit (.bool true)], args := [d] }
  | _ => none }
def fnExactOrbitSizeRow : OpenClaim := { program := "ytphpdanohooccaa", sum := "436b6ce081dcb27f12eebba7750ad10d908c5bda17277910cb10f43748d2f76d", func := "loop.example/g03204/laws.FnExactOrbitSize", spec := "fnExactOrbitSize", unfollowed := true, recurses := true, apart := false }
def FnExactOrbitSizeSaid : Prop := fnExactOrbitSizeRow.holds Try.pinned (OpenSpec.ofChange fnExactOrbitSizeSpec)

/-- ITS FALSE NEIGHBOUR: 'it returns false'. Refute it at one input. -/
def fnExactOrbitSizeWrong : ChangeSpec := { name := "fnExactOrbitSize", fn := fun _ => fun
  | [d] => { results := [.lit (.bool false)], args := [d] }
  | _ => none }
def FnExactOrbitSizeWrongFalsely : Prop := fnExactOrbitSizeRow.holds Try.pinned (OpenSpec.ofChange fnExactOrbitSizeWrong)

/-- 'laws.FnExactStretchClass': WHATEVER THE INPUT: true; the input reads as it did. -/
def fnExactStretchClassSpec : ChangeSpec := { name := "fnExactStretchClass", fn := fun _ => fun
  | [d] => { results := [.lit (.bool true)], args := [d] }
  | _ => none }
def fnExactStretchClassRow : OpenClaim := { program := "ytphpdanohooccaa", sum := "436b6ce081dcb27f12eebba7750ad10d908c5bda17277910cb10f43748d2f76d", func := "loop.example/g03204/laws.FnExactStretchClass", spec := "fnExactStretchClass", unfollowed := true, recurses := true, apart := false }
def FnExactStretchClassSaid : Prop := fnExactStretchClassRow.holds Try.pinned (OpenSpec.ofChange fnExactStretchClassSpec)

/-- ITS FALSE NEIGHBOUR: 'it returns false'. Refute it at one input. -/
def fnExactStretchClassWrong : ChangeSpec := { name := "fnExactStretchClass", fn := fun _ => fun
  | [d] => { results := [.lit (.bool false)], args := [d] }
  | _ => none }
def FnExactStretchClassWrongFalsely : Prop := fnExactStretchClassRow.holds Try.pinned (OpenSpec.ofChange fnExactStretchClassWrong)

/-- 'laws.FnExactSameClass': WHATEVER THE INPUT: true; the input reads as it did. -/
def fnExactSameClassSpec : ChangeSpec := { name := "fnExactSameClass", fn := fun _ => fun
  | [d1, d2] => { results := [.lit (.bool true)], args := [d1, d2] }
  | _ => none }
def fnExactSameClassRow : OpenClaim := { program := "ytphpdanohooccaa", sum := "436b6ce081dcb27f12eebba7750ad10d908c5bda17277910cb10f43748d2f76d", func := "loop.example/g03204/laws.FnExactSameClass", spec := "fnExactSameClass", unfollowed := true, recurses := true, apart := false }
def FnExactSameClassSaid : Prop := fnExactSameClassRow.holds Try.pinned (OpenSpec.ofChange fnExactSameClassSpec)

/-- ITS FALSE NEIGHBOUR: 'it returns false'. Refute it at one input. -/
def fnExactSameClassWrong : ChangeSpec := { name := "fnExactSameClass", fn := fun _ => fun
  | [d1, d2] => { results := [.lit (.bool false)], args := [d1, d2] }
  | _ => none }
def FnExactSameClassWrongFalsely : Prop := fnExactSameClassRow.holds Try.pinned (OpenSpec.ofChange fnExactSameClassWrong)

/-- 'laws.FnExactNecklacesOf': WHATEVER THE INPUT: true; the input reads as it did. -/
def fnExactNecklacesOfSpec : ChangeSpec := { name := "fnExactNecklacesOf", fn := fun _ => fun
  | [d1, d2] => { results := [.lit (.bool true)], args := [d1, d2] }
  | _ => none }
def fnExactNecklacesOfRow : OpenClaim := { program := "ytphpdanohooccaa", sum := "436b6ce081dcb27f12eebba7750ad10d908c5bda17277910cb10f43748d2f76d", func := "loop.example/g03204/laws.FnExactNecklacesOf", spec := "fnExactNecklacesOf", unfollowed := true, recurses := true, apart := false }
def FnExactNecklacesOfSaid : Prop := fnExactNecklacesOfRow.holds Try.pinned (OpenSpec.ofChange fnExactNecklacesOfSpec)

/-- ITS FALSE NEIGHBOUR: 'it returns false'. Refute it at one input. -/
def fnExactNecklacesOfWrong : ChangeSpec := { name := "fnExactNecklacesOf", fn := fun _ => fun
  | [d1, d2] => { results := [.lit (.bool false)], args := [d1, d2] }
  | _ => none }
def FnExactNecklacesOfWrongFalsely : Prop := fnExactNecklacesOfRow.holds Try.pinned (OpenSpec.ofChange fnExactNecklacesOfWrong)

/- THE SECOND FORM. 'bulk': how many values and letters a reading holds, each counted each time it is reached (what is shared counts as often as it is met; a slice's spare places count too). A statement '..UptoSaid' is the law's where the arguments, and the package variables that the reading takes, are together of bulk at most 1048576: NARROWER than '..Said'. Prove '..Said' where nothing that the law and all that it calls make is longer than what came in: it says more and counts as full. Else prove '..UptoSaid'. A law counts once. -/
mutual
def uptoBulk {H : Type} : DataW H → Nat
  | .lit (.string bytes) => bytes.length + 1
  | .lit _ => 1
  | .nil => 1
  | .ptr d => uptoBulk d + 1
  | .slice elems spare => uptoBulkAll elems + uptoBulkAll spare + 1
  | .agg parts => uptoBulkAll parts + 1
  | .iface _ d => uptoBulk d + 1
  | .map entries => uptoBulkEntries entries + 1
  | .held _ => 1
def uptoBulkAll {H : Type} : List (DataW H) → Nat
  | [] => 0
  | d :: r => uptoBulk d + uptoBulkAll r
def uptoBulkEntries {H : Type} : List (Lit × DataW H) → Nat
  | [] => 0
  | x :: r => uptoBulkEntry x + uptoBulkEntries r
def uptoBulkEntry {H : Type} : Lit × DataW H → Nat
  | (.string bytes, d) => bytes.length + uptoBulk d + 1
  | (_, d) => uptoBulk d + 1
 end
def uptoSmall : (H : Type) → List (DataW H) → Bool := fun _ ds => decide (uptoBulkAll ds ≤ 1048576)
def OpenSpec.upto (s : _root_.Go.ChangeSpec) : _root_.Go.OpenSpec := { _root_.Go.OpenSpec.ofChange s with cond := some uptoSmall }

/-- 'laws.FnExactUnitsOf', WHERE WHAT IT READS IS OF BULK AT MOST 1048576: true; the input reads as it did. -/
def fnExactUnitsOfUptoRow : OpenClaim := { program := "ytphpdanohooccaa", sum := "436b6ce081dcb27f12eebba7750ad10d908c5bda17277910cb10f43748d2f76d", func := "loop.example/g03204/laws.FnExactUnitsOf", spec := "fnExactUnitsOf", apart := false, narrowed := true }
def FnExactUnitsOfUptoSaid : Prop := fnExactUnitsOfUptoRow.holds Try.pinned (OpenSpec.upto fnExactUnitsOfSpec)

/-- 'laws.FnExactCountNecklaces', WHERE WHAT IT READS IS OF BULK AT MOST 1048576: true; the input reads as it did. -/
def fnExactCountNecklacesUptoRow : OpenClaim := { program := "ytphpdanohooccaa", sum := "436b6ce081dcb27f12eebba7750ad10d908c5bda17277910cb10f43748d2f76d", func := "loop.example/g03204/laws.FnExactCountNecklaces", spec := "fnExactCountNecklaces", apart := false, narrowed := true }
def FnExactCountNecklacesUptoSaid : Prop := fnExactCountNecklacesUptoRow.holds Try.pinned (OpenSpec.upto fnExactCountNecklacesSpec)

/-- 'laws.FnExactCountBracelets', WHERE WHAT IT READS IS OF BULK AT MOST 1048576: true; the input reads as it did. -/
def fnExactCountBraceletsUptoRow : OpenClaim := { program := "ytphpdanohooccaa", sum := "436b6ce081dcb27f12eebba7750ad10d908c5bda17277910cb10f43748d2f76d", func := "loop.example/g03204/laws.FnExactCountBracelets", spec := "fnExactCountBracelets", apart := false, narrowed := true }
def FnExactCountBraceletsUptoSaid : Prop := fnExactCountBraceletsUptoRow.holds Try.pinned (OpenSpec.upto fnExactCountBraceletsSpec)

/-- 'laws.FnExactStabilizerSize', WHERE WHAT IT READS IS OF BULK AT MOST 1048576: true; the input reads as it did. -/
def fnExactStabilizerSizeUptoRow : OpenClaim := { program := "ytphpdanohooccaa", sum := "436b6ce081dcb27f12eebba7750ad10d908c5bda17277910cb10f43748d2f76d", func := "loop.example/g03204/laws.FnExactStabilizerSize", spec := "fnExactStabilizerSize", unfollowed := true, recurses := true, apart := false, narrowed := true }
def FnExactStabilizerSizeUptoSaid : Prop := fnExactStabilizerSizeUptoRow.holds Try.pinned (OpenSpec.upto fnExactStabilizerSizeSpec)

/-- 'laws.FnExactOrbitSize', WHERE WHAT IT READS IS OF BULK AT MOST 1048576: true; the input reads as it did. -/
def fnExactOrbitSizeUptoRow : OpenClaim := { program := "ytphpdanohooccaa", sum := "436b6ce081dcb27f12eebba7750ad10d908c5bda17277910cb10f43748d2f76d", func := "loop.example/g03204/laws.FnExactOrbitSize", spec := "fnExactOrbitSize", unfollowed := true, recurses := true, apart := false, narrowed := true }
def FnExactOrbitSizeUptoSaid : Prop := fnExactOrbitSizeUptoRow.holds Try.pinned (OpenSpec.upto fnExactOrbitSizeSpec)

/-- 'laws.FnExactStretchClass', WHERE WHAT IT READS IS OF BULK AT MOST 1048576: true; the input reads as it did. -/
def fnExactStretchClassUptoRow : OpenClaim := { program := "ytphpdanohooccaa", sum := "436b6ce081dcb27f12eebba7750ad10d908c5bda17277910cb10f43748d2f76d", func := "loop.example/g03204/laws.FnExactStretchClass", spec := "fnExactStretchClass", unfollowed := true, recurses := true, apart := false, narrowed := true }
def FnExactStretchClassUptoSaid : Prop := fnExactStretchClassUptoRow.holds Try.pinned (OpenSpec.upto fnExactStretchClassSpec)

/-- 'laws.FnExactSameClass', WHERE WHAT IT READS IS OF BULK AT MOST 1048576: true; the input reads as it did. -/
def fnExactSameClassUptoRow : OpenClaim := { program := "ytphpdanohooccaa", sum := "436b6ce081dcb27f12eebba7750ad10d908c5bda17277910cb10f43748d2f76d", func := "loop.example/g03204/laws.FnExactSameClass", spec := "fnExactSameClass", unfollowed := true, recurses := true, apart := false, narrowed := true }
def FnExactSameClassUptoSaid : Prop := fnExactSameClassUptoRow.holds Try.pinned (OpenSpec.upto fnExactSameClassSpec)

/-- 'laws.FnExactNecklacesOf', WHERE WHAT IT READS IS OF BULK AT MOST 1048576: true; the input reads as it did. -/
def fnExactNecklacesOfUptoRow : OpenClaim := { program := "ytphpdanohooccaa", sum := "436b6ce081dcb27f12eebba7750ad10d908c5bda17277910cb10f43748d2f76d", func := "loop.example/g03204/laws.FnExactNecklacesOf", spec := "fnExactNecklacesOf", unfollowed := true, recurses := true, apart := false, narrowed := true }
def FnExactNecklacesOfUptoSaid : Prop := fnExactNecklacesOfUptoRow.holds Try.pinned (OpenSpec.upto fnExactNecklacesOfSpec)

end Rows
end Go.Proofs.Ytphpdanohooccaa
