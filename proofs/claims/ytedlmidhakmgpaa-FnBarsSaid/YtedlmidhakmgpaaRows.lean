/-
  No cell of these rows narrows 'for every input' (looked for: loops, veiled, ifaces, maps, wideKeys, modest, calm, conditions, laid).
  DERIVED. THE GIVEN ROWS OF THIS SEAT. 10 by the template 'for every input the law returns true; each argument reads behind the call as it read before'; 0 by the template 'total and deterministic' (their statements: YtedlmidhakmgpaaTotals.lean).
  GIVEN WITH THE SEED: the statements are not yours to turn. If you find one false, say at which input.
  Laid BY PROGRAM, IN A SANDBOX (cutbox-rows.mjs): the forced cells as the released guide's own fill.sh prints them over the translation 304a69e5b14acad8… (all of the seat's roots in one cut). By AI agents, Wed Nov 11 2026. No macro, syntax, notation, axiom, sorry.
-/
import Derived.Test.YtedlmidhakmgpaaChecked
import GoSem.Claim
import GoSem.ClaimJoined
import GoSem.ClaimMapViews
import Derived.JoinedTies
import Derived.KernelRfl
namespace Go.Proofs.Ytedlmidhakmgpaa
/- THE CELL 'sum', in the pinned program and in every row, IS THE sha256 OF THE DUMP (.gsa) THAT YtedlmidhakmgpaaProg.lean LOADS. Nothing in Lean hashes anything: it is a label: what it is worth is what the hold of that sum in a sandbox is worth. -/
noncomputable def Try.pinned : Pinned := { name := "ytedlmidhakmgpaa", sum := "304a69e5b14acad861912493286d0731f88454e2d2d365bd605576aebbb5e8e2", checked := Try.checked }
namespace Rows
def none {H : Type} : Left H := { results := [], args := [] }

/-- 'laws.FnExactCountBars': WHATEVER THE INPUT: true; the input reads as it did. -/
def fnExactCountBarsSpec : ChangeSpec := { name := "fnExactCountBars", fn := fun _ => fun
  | [d] => { results := [.lit (.bool true)], args := [d] }
  | _ => none }
def fnExactCountBarsRow : OpenClaim := { program := "ytedlmidhakmgpaa", sum := "304a69e5b14acad861912493286d0731f88454e2d2d365bd605576aebbb5e8e2", func := "loop.example/g03204/laws.FnExactCountBars", spec := "fnExactCountBars", recurses := true, apart := false }
def FnExactCountBarsSaid : Prop := fnExactCountBarsRow.holds Try.pinned (OpenSpec.ofChange fnExactCountBarsSpec)

/-- ITS FALSE NEIGHBOUR: 'it returns false'. Refute it at one input. -/
def fnExactCountBarsWrong : ChangeSpec := { name := "fnExactCountBars", fn := fun _ => fun
  | [d] => { results := [.lit (.bool false)], args := [d] }
  | _ => none }
def FnExactCountBarsWrongFalsely : Prop := fnExactCountBarsRow.holds Try.pinned (OpenSpec.ofChange fnExactCountBarsWrong)

/-- 'laws.FnExactBarOk': WHATEVER THE INPUT: true; the input reads as it did. -/
def fnExactBarOkSpec : ChangeSpec := { name := "fnExactBarOk", fn := fun _ => fun
  | [d] => { results := [.lit (.bool true)], args := [d] }
  | _ => none }
def fnExactBarOkRow : OpenClaim := { program := "ytedlmidhakmgpaa", sum := "304a69e5b14acad861912493286d0731f88454e2d2d365bd605576aebbb5e8e2", func := "loop.example/g03204/laws.FnExactBarOk", spec := "fnExactBarOk", unfollowed := true, recurses := true, apart := false }
def FnExactBarOkSaid : Prop := fnExactBarOkRow.holds Try.pinned (OpenSpec.ofChange fnExactBarOkSpec)

/-- ITS FALSE NEIGHBOUR: 'it returns false'. Refute it at one input. -/
def fnExactBarOkWrong : ChangeSpec := { name := "fnExactBarOk", fn := fun _ => fun
  | [d] => { results := [.lit (.bool false)], args := [d] }
  | _ => none }
def FnExactBarOkWrongFalsely : Prop := fnExactBarOkRow.holds Try.pinned (OpenSpec.ofChange fnExactBarOkWrong)

/-- 'laws.FnExactBarsOf': WHATEVER THE INPUT: true; the input reads as it did. -/
def fnExactBarsOfSpec : ChangeSpec := { name := "fnExactBarsOf", fn := fun _ => fun
  | [d] => { results := [.lit (.bool true)], args := [d] }
  | _ => none }
def fnExactBarsOfRow : OpenClaim := { program := "ytedlmidhakmgpaa", sum := "304a69e5b14acad861912493286d0731f88454e2d2d365bd605576aebbb5e8e2", func := "loop.example/g03204/laws.FnExactBarsOf", spec := "fnExactBarsOf", recurses := true, apart := false }
def FnExactBarsOfSaid : Prop := fnExactBarsOfRow.holds Try.pinned (OpenSpec.ofChange fnExactBarsOfSpec)

/-- ITS FALSE NEIGHBOUR: 'it returns false'. Refute it at one input. -/
def fnExactBarsOfWrong : ChangeSpec := { name := "fnExactBarsOf", fn := fun _ => fun
  | [d] => { results := [.lit (.bool false)], args := [d] }
  | _ => none }
def FnExactBarsOfWrongFalsely : Prop := fnExactBarsOfRow.holds Try.pinned (OpenSpec.ofChange fnExactBarsOfWrong)

/-- 'laws.FnExactDoubleBar': WHATEVER THE INPUT: true; the input reads as it did. -/
def fnExactDoubleBarSpec : ChangeSpec := { name := "fnExactDoubleBar", fn := fun _ => fun
  | [d] => { results := [.lit (.bool true)], args := [d] }
  | _ => none }
def fnExactDoubleBarRow : OpenClaim := { program := "ytedlmidhakmgpaa", sum := "304a69e5b14acad861912493286d0731f88454e2d2d365bd605576aebbb5e8e2", func := "loop.example/g03204/laws.FnExactDoubleBar", spec := "fnExactDoubleBar", unfollowed := true, recurses := true, apart := false }
def FnExactDoubleBarSaid : Prop := fnExactDoubleBarRow.holds Try.pinned (OpenSpec.ofChange fnExactDoubleBarSpec)

/-- ITS FALSE NEIGHBOUR: 'it returns false'. Refute it at one input. -/
def fnExactDoubleBarWrong : ChangeSpec := { name := "fnExactDoubleBar", fn := fun _ => fun
  | [d] => { results := [.lit (.bool false)], args := [d] }
  | _ => none }
def FnExactDoubleBarWrongFalsely : Prop := fnExactDoubleBarRow.holds Try.pinned (OpenSpec.ofChange fnExactDoubleBarWrong)

/-- 'laws.FnExactBarRhythm': WHATEVER THE INPUT: true; the input reads as it did. -/
def fnExactBarRhythmSpec : ChangeSpec := { name := "fnExactBarRhythm", fn := fun _ => fun
  | [d] => { results := [.lit (.bool true)], args := [d] }
  | _ => none }
def fnExactBarRhythmRow : OpenClaim := { program := "ytedlmidhakmgpaa", sum := "304a69e5b14acad861912493286d0731f88454e2d2d365bd605576aebbb5e8e2", func := "loop.example/g03204/laws.FnExactBarRhythm", spec := "fnExactBarRhythm", unfollowed := true, recurses := true, apart := false }
def FnExactBarRhythmSaid : Prop := fnExactBarRhythmRow.holds Try.pinned (OpenSpec.ofChange fnExactBarRhythmSpec)

/-- ITS FALSE NEIGHBOUR: 'it returns false'. Refute it at one input. -/
def fnExactBarRhythmWrong : ChangeSpec := { name := "fnExactBarRhythm", fn := fun _ => fun
  | [d] => { results := [.lit (.bool false)], args := [d] }
  | _ => none }
def FnExactBarRhythmWrongFalsely : Prop := fnExactBarRhythmRow.holds Try.pinned (OpenSpec.ofChange fnExactBarRhythmWrong)

/-- 'laws.FnExactCountRoundBars': WHATEVER THE INPUT: true; the input reads as it did. -/
def fnExactCountRoundBarsSpec : ChangeSpec := { name := "fnExactCountRoundBars", fn := fun _ => fun
  | [d] => { results := [.lit (.bool true)], args := [d] }
  | _ => none }
def fnExactCountRoundBarsRow : OpenClaim := { program := "ytedlmidhakmgpaa", sum := "304a69e5b14acad861912493286d0731f88454e2d2d365bd605576aebbb5e8e2", func := "loop.example/g03204/laws.FnExactCountRoundBars", spec := "fnExactCountRoundBars", recurses := true, apart := false }
def FnExactCountRoundBarsSaid : Prop := fnExactCountRoundBarsRow.holds Try.pinned (OpenSpec.ofChange fnExactCountRoundBarsSpec)

/-- ITS FALSE NEIGHBOUR: 'it returns false'. Refute it at one input. -/
def fnExactCountRoundBarsWrong : ChangeSpec := { name := "fnExactCountRoundBars", fn := fun _ => fun
  | [d] => { results := [.lit (.bool false)], args := [d] }
  | _ => none }
def FnExactCountRoundBarsWrongFalsely : Prop := fnExactCountRoundBarsRow.holds Try.pinned (OpenSpec.ofChange fnExactCountRoundBarsWrong)

/-- 'laws.FnExactIsRoundBar': WHATEVER THE INPUT: true; the input reads as it did. -/
def fnExactIsRoundBarSpec : ChangeSpec := { name := "fnExactIsRoundBar", fn := fun _ => fun
  | [d] => { results := [.lit (.bool true)], args := [d] }
  | _ => none }
def fnExactIsRoundBarRow : OpenClaim := { program := "ytedlmidhakmgpaa", sum := "304a69e5b14acad861912493286d0731f88454e2d2d365bd605576aebbb5e8e2", func := "loop.example/g03204/laws.FnExactIsRoundBar", spec := "fnExactIsRoundBar", unfollowed := true, recurses := true, apart := false }
def FnExactIsRoundBarSaid : Prop := fnExactIsRoundBarRow.holds Try.pinned (OpenSpec.ofChange fnExactIsRoundBarSpec)

/-- ITS FALSE NEIGHBOUR: 'it returns false'. Refute it at one input. -/
def fnExactIsRoundBarWrong : ChangeSpec := { name := "fnExactIsRoundBar", fn := fun _ => fun
  | [d] => { results := [.lit (.bool false)], args := [d] }
  | _ => none }
def FnExactIsRoundBarWrongFalsely : Prop := fnExactIsRoundBarRow.holds Try.pinned (OpenSpec.ofChange fnExactIsRoundBarWrong)

/-- 'laws.FnExactNextBar': WHATEVER THE INPUT: true; the input reads as it did. -/
def fnExactNextBarSpec : ChangeSpec := { name := "fnExactNextBar", fn := fun _ => fun
  | [d] => { results := [.lit (.bool true)], args := [d] }
  | _ => none }
def fnExactNextBarRow : OpenClaim := { program := "ytedlmidhakmgpaa", sum := "304a69e5b14acad861912493286d0731f88454e2d2d365bd605576aebbb5e8e2", func := "loop.example/g03204/laws.FnExactNextBar", spec := "fnExactNextBar", unfollowed := true, recurses := true, apart := false }
def FnExactNextBarSaid : Prop := fnExactNextBarRow.holds Try.pinned (OpenSpec.ofChange fnExactNextBarSpec)

/-- ITS FALSE NEIGHBOUR: 'it returns false'. Refute it at one input. -/
def fnExactNextBarWrong : ChangeSpec := { name := "fnExactNextBar", fn := fun _ => fun
  | [d] => { results := [.lit (.bool false)], args := [d] }
  | _ => none }
def FnExactNextBarWrongFalsely : Prop := fnExactNextBarRow.holds Try.pinned (OpenSpec.ofChange fnExactNextBarWrong)

/-- 'laws.FnExactBarOf': WHATEVER THE INPUT: true; the input reads as it did. -/
def fnExactBarOfSpec : ChangeSpec := { name := "fnExactBarOf", fn := fun _ => fun
  | [d] => { results := [.lit (.bool true)], args := [d] }
  | _ => none }
def fnExactBarOfRow : OpenClaim := { program := "ytedlmidhakmgpaa", sum := "304a69e5b14acad861912493286d0731f88454e2d2d365bd605576aebbb5e8e2", func := "loop.example/g03204/laws.FnExactBarOf", spec := "fnExactBarOf", unfollowed := true, recurses := true, apart := false }
def FnExactBarOfSaid : Prop := fnExactBarOfRow.holds Try.pinned (OpenSpec.ofChange fnExactBarOfSpec)

/-- ITS FALSE NEIGHBOUR: 'it returns false'. Refute it at one input. -/
def fnExactBarOfWrong : ChangeSpec := { name := "fnExactBarOf", fn := fun _ => fun
  | [d] => { results := [.lit (.bool false)], args := [d] }
  | _ => none }
def FnExactBarOfWrongFalsely : Prop := fnExactBarOfRow.holds Try.pinned (OpenSpec.ofChange fnExactBarOfWrong)

/-- 'laws.FnBars': WHATEVER THE INPUT: true; the input reads as it did. -/
def fnBarsSpec : ChangeSpec := { name := "fnBars", fn := fun _ => fun
  | [d] => { results := [.lit (.bool true)], args := [d] }
  | _ => none }
def fnBarsRow : OpenClaim := { program := "ytedlmidhakmgpaa", sum := "304a69e5b14acad861912493286d0731f88454e2d2d365bd605576aebbb5e8e2", func := "loop.example/g03204/laws.FnBars", spec := "fnBars", unfollowed := true, recurses := true, apart := false }
def FnBarsSaid : Prop := fnBarsRow.holds Try.pinned (OpenSpec.ofChange fnBarsSpec)

/-- ITS FALSE NEIGHBOUR: 'it returns false'. Refute it at one input. -/
def fnBarsWrong : ChangeSpec := { name := "fnBars", fn := fun _ => fun
  | [d] => { results := [.lit (.bool false)], args := [d] }
  | _ => none }
def FnBarsWrongFalsely : Prop := fnBarsRow.holds Try.pinned (OpenSpec.ofChange fnBarsWrong)

/- THE SECOND FORM. 'bulk': how many values and letters a reading holds, each counted each time it is reached (what is shared counts as often as it is met; a slice's spare places count too). A statement '..UptoSaid' is the law's where the arguments, and the package variables that the reading takes, are together of bulk at most 1048576: NARROWER than '..Said'. Prove '..Said' where nothing that the law and all that it calls make is longer than what came in: it says more and counts as full. Else prove '..UptoSaid'. A law counts once. -/
mutual
def uptoBulk {H : Type} : DataW H → Nat
  | .lit (.string bytes) => bytes.length + 1
  | .lit _ => 1
  | .nil => 1
  | .ptr d => uptoBulk d + 1
  | .slice elems spare => uptoBulkAll elems + uptoBulkAll spare + 1
  | .agg parts => uptoBulkAll parts + 1
  | .iface _ d => uptoBulk d + 1
  | .map entries => uptoBulkEntries entries + 1
  | .held _ => 1
def uptoBulkAll {H : Type} : List (DataW H) → Nat
  | [] => 0
  | d :: r => uptoBulk d + uptoBulkAll r
def uptoBulkEntries {H : Type} : List (Lit × DataW H) → Nat
  | [] => 0
  | x :: r => uptoBulkEntry x + uptoBulkEntries r
def uptoBulkEntry {H : Type} : Lit × DataW H → Nat
  | (.string bytes, d) => bytes.length + uptoBulk d + 1
  | (_, d) => uptoBulk d + 1
 end
def uptoSmall : (H : Type) → List (DataW H) → Bool := fun _ ds => decide (uptoBulkAll ds ≤ 1048576)
def OpenSpec.upto (s : _root_.Go.ChangeSpec) : _root_.Go.OpenSpec := { _root_.Go.OpenSpec.ofChange s with cond := some uptoSmall }

/-- 'laws.FnExactCountBars', WHERE WHAT IT READS IS OF BULK AT MOST 1048576: true; the input reads as it did. -/
def fnExactCountBarsUptoRow : OpenClaim := { program := "ytedlmidhakmgpaa", sum := "304a69e5b14acad861912493286d0731f88454e2d2d365bd605576aebbb5e8e2", func := "loop.example/g03204/laws.FnExactCountBars", spec := "fnExactCountBars", recurses := true, apart := false, narrowed := true }
def FnExactCountBarsUptoSaid : Prop := fnExactCountBarsUptoRow.holds Try.pinned (OpenSpec.upto fnExactCountBarsSpec)

/-- 'laws.FnExactBarOk', WHERE WHAT IT READS IS OF BULK AT MOST 1048576: true; the input reads as it did. -/
def fnExactBarOkUptoRow : OpenClaim := { program := "ytedlmidhakmgpaa", sum := "304a69e5b14acad861912493286d0731f88454e2d2d365bd605576aebbb5e8e2", func := "loop.example/g03204/laws.FnExactBarOk", spec := "fnExactBarOk", unfollowed := true, recurses := true, apart := false, narrowed := true }
def FnExactBarOkUptoSaid : Prop := fnExactBarOkUptoRow.holds Try.pinned (OpenSpec.upto fnExactBarOkSpec)

/-- 'laws.FnExactBarsOf', WHERE WHAT IT READS IS OF BULK AT MOST 1048576: true; the input reads as it did. -/
def fnExactBarsOfUptoRow : OpenClaim := { program := "ytedlmidhakmgpaa", sum := "304a69e5b14acad861912493286d0731f88454e2d2d365bd605576aebbb5e8e2", func := "loop.example/g03204/laws.FnExactBarsOf", spec := "fnExactBarsOf", recurses := true, apart := false, narrowed := true }
def FnExactBarsOfUptoSaid : Prop := fnExactBarsOfUptoRow.holds Try.pinned (OpenSpec.upto fnExactBarsOfSpec)

/-- 'laws.FnExactDoubleBar', WHERE WHAT IT READS IS OF BULK AT MOST 1048576: true; the input reads as it did. -/
def fnExactDoubleBarUptoRow : OpenClaim := { program := "ytedlmidhakmgpaa", sum := "304a69e5b14acad861912493286d0731f88454e2d2d365bd605576aebbb5e8e2", func := "loop.example/g03204/laws.FnExactDoubleBar", spec := "fnExactDoubleBar", unfollowed := true, recurses := true, apart := false, narrowed := true }
def FnExactDoubleBarUptoSaid : Prop := fnExactDoubleBarUptoRow.holds Try.pinned (OpenSpec.upto fnExactDoubleBarSpec)

/-- 'laws.FnExactBarRhythm', WHERE WHAT IT READS IS OF BULK AT MOST 1048576: true; the input reads as it did. -/
def fnExactBarRhythmUptoRow : OpenClaim := { program := "ytedlmidhakmgpaa", sum := "304a69e5b14acad861912493286d0731f88454e2d2d365bd605576aebbb5e8e2", func := "loop.example/g03204/laws.FnExactBarRhythm", spec := "fnExactBarRhythm", unfollowed := true, recurses := true, apart := false, narrowed := true }
def FnExactBarRhythmUptoSaid : Prop := fnExactBarRhythmUptoRow.holds Try.pinned (OpenSpec.upto fnExactBarRhythmSpec)

/-- 'laws.FnExactCountRoundBars', WHERE WHAT IT READS IS OF BULK AT MOST 1048576: true; the input reads as it did. -/
def fnExactCountRoundBarsUptoRow : OpenClaim := { program := "ytedlmidhakmgpaa", sum := "304a69e5b14acad861912493286d0731f88454e2d2d365bd605576aebbb5e8e2", func := "loop.example/g03204/laws.FnExactCountRoundBars", spec := "fnExactCountRoundBars", recurses := true, apart := false, narrowed := true }
def FnExactCountRoundBarsUptoSaid : Prop := fnExactCountRoundBarsUptoRow.holds Try.pinned (OpenSpec.upto fnExactCountRoundBarsSpec)

/-- 'laws.FnExactIsRoundBar', WHERE WHAT IT READS IS OF BULK AT MOST 1048576: true; the input reads as it did. -/
def fnExactIsRoundBarUptoRow : OpenClaim := { program := "ytedlmidhakmgpaa", sum := "304a69e5b14acad861912493286d0731f88454e2d2d365bd605576aebbb5e8e2", func := "loop.example/g03204/laws.FnExactIsRoundBar", spec := "fnExactIsRoundBar", unfollowed := true, recurses := true, apart := false, narrowed := true }
def FnExactIsRoundBarUptoSaid : Prop := fnExactIsRoundBarUptoRow.holds Try.pinned (OpenSpec.upto fnExactIsRoundBarSpec)

/-- 'laws.FnExactNextBar', WHERE WHAT IT READS IS OF BULK AT MOST 1048576: true; the input reads as it did. -/
def fnExactNextBarUptoRow : OpenClaim := { program := "ytedlmidhakmgpaa", sum := "304a69e5b14acad861912493286d0731f88454e2d2d365bd605576aebbb5e8e2", func := "loop.example/g03204/laws.FnExactNextBar", spec := "fnExactNextBar", unfollowed := true, recurses := true, apart := false, narrowed := true }
def FnExactNextBarUptoSaid : Prop := fnExactNextBarUptoRow.holds Try.pinned (OpenSpec.upto fnExactNextBarSpec)

/-- 'laws.FnExactBarOf', WHERE WHAT IT READS IS OF BULK AT MOST 1048576: true; the input reads as it did. -/
def fnExactBarOfUptoRow : OpenClaim := { program := "ytedlmidhakmgpaa", sum := "304a69e5b14acad861912493286d0731f88454e2d2d365bd605576aebbb5e8e2", func := "loop.example/g03204/laws.FnExactBarOf", spec := "fnExactBarOf", unfollowed := true, recurses := true, apart := false, narrowed := true }
def FnExactBarOfUptoSaid : Prop := fnExactBarOfUptoRow.holds Try.pinned (OpenSpec.upto fnExactBarOfSpec)

/-- 'laws.FnBars', WHERE WHAT IT READS IS OF BULK AT MOST 1048576: true; the input reads as it did. -/
def fnBarsUptoRow : OpenClaim := { program := "ytedlmidhakmgpaa", sum := "304a69e5b14acad861912493286d0731f88454e2d2d365bd605576aebbb5e8e2", func := "loop.example/g03204/laws.FnBars", spec := "fnBars", unfollowed := true, recurses := true, apart := false, narrowed := true }
def FnBarsUptoSaid : Prop := fnBarsUptoRow.holds Try.pinned (OpenSpec.upto fnBarsSpec)

end Rows
end Go.Proofs.Ytedlmidhakmgpaa
