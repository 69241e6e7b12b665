/-
  DERIVED. GIVEN WITH THE SEED: THE CARDS: each row of YtphpdanohooccaaDoorRows.lean that lists a variable, with what it lists TIED to the program's text (the seventh form; the later family's looks); each row that meets fmt, with fmt's text TOLD by the authors' own Lean function (tested against real Go, not proved from fmt's source: count such statements apart). THE CARD IS WHAT COUNTS. Prove the row's statement (the work); the ties are given (YtphpdanohooccaaDoorTie.lean); close each card by the builder's one call (the guide's Derived/Test/ToyasCard.lean, 'card_holds'). Laid BY PROGRAM, IN A SANDBOX (cutbox-door.mjs). By AI agents, Wed Nov 11 2026. No macro, syntax, notation, axiom, sorry.
-/
import Derived.Test.YtphpdanohooccaaDoorRows
import GoSem.ClaimSeven
namespace Go.Proofs.YtphpdanohooccaaDoor
namespace Rows

/-- THE TIED CARD OF 'laws.FnExactApplyWord'. -/
def fnExactApplyWordCard : Claim7 := { stood := { row := fnExactApplyWordRow, standIns := [], harness := (true, "fb1753db6b5a7189735064b77c980d35af50245e184b859b1b9bef7658e39229"), looks := false }, kinds := [], alts := [], laidByText := true, laidKinds := [.data, .pinned], laidTests := true, laidLooks := .later }
def FnExactApplyWordCardSaid : Prop := Claim7.holds Tryd.pinned (.plain (OpenSpec.ofChange fnExactApplyWordSpec)) fnExactApplyWordCard

/-- THE SECOND FORM's CARD OF 'laws.FnExactApplyWord'. -/
def fnExactApplyWordUptoCard : Claim7 := { stood := { row := fnExactApplyWordUptoRow, standIns := [], harness := (true, "fb1753db6b5a7189735064b77c980d35af50245e184b859b1b9bef7658e39229"), looks := false }, kinds := [], alts := [], laidByText := true, laidKinds := [.data, .pinned], laidTests := true, laidLooks := .later }
def FnExactApplyWordUptoCardSaid : Prop := Claim7.holds Tryd.pinned (.plain (OpenSpec.upto fnExactApplyWordSpec)) fnExactApplyWordUptoCard
end Rows
end Go.Proofs.YtphpdanohooccaaDoor
