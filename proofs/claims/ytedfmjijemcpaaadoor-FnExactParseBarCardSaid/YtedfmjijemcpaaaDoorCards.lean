/-
  DERIVED. GIVEN WITH THE SEED: THE CARDS: each row of YtedfmjijemcpaaaDoorRows.lean that lists a variable, with what it lists TIED to the program's text (the seventh form; the later family's looks); each row that meets fmt, with fmt's text TOLD by the authors' own Lean function (tested against real Go, not proved from fmt's source: count such statements apart). THE CARD IS WHAT COUNTS. Prove the row's statement (the work); the ties are given (YtedfmjijemcpaaaDoorTie.lean); close each card by the builder's one call (the guide's Derived/Test/ToyasCard.lean, 'card_holds'). Laid BY PROGRAM, IN A SANDBOX (cutbox-door.mjs). By AI agents, Wed Nov 11 2026. No macro, syntax, notation, axiom, sorry.
-/
import Derived.Test.YtedfmjijemcpaaaDoorRows
import GoSem.ClaimSeven
namespace Go.Proofs.YtedfmjijemcpaaaDoor
namespace Rows

/-- THE TIED CARD OF 'laws.FnExactFormatBar'. -/
def fnExactFormatBarCard : Claim7 := { stood := { row := fnExactFormatBarRow, standIns := [], harness := (true, "8c0796aab9a44084d485c9e03684c36b3620095f33c5844c46b39b182c527a9b"), looks := true }, kinds := [], alts := [], laidByText := true, laidKinds := [.data, .data, .data, .data, .pinned], laidTests := true, laidLooks := .later }
def FnExactFormatBarCardSaid : Prop := Claim7.holds Tryd.pinned (.plain (OpenSpec.ofChange fnExactFormatBarSpec)) fnExactFormatBarCard

/-- THE TIED CARD OF 'laws.FnExactFormatMeter'. -/
def fnExactFormatMeterCard : Claim7 := { stood := { row := fnExactFormatMeterRow, standIns := [], harness := (true, "8c0796aab9a44084d485c9e03684c36b3620095f33c5844c46b39b182c527a9b"), looks := true }, kinds := [], alts := [], laidByText := true, laidKinds := [.data, .data, .data, .data, .pinned], laidTests := true, laidLooks := .later }
def FnExactFormatMeterCardSaid : Prop := Claim7.holds Tryd.pinned (.plain (OpenSpec.ofChange fnExactFormatMeterSpec)) fnExactFormatMeterCard

/-- THE TIED CARD OF 'laws.FnExactParseBar'. -/
def fnExactParseBarCard : Claim7 := { stood := { row := fnExactParseBarRow, standIns := [], harness := (true, "8c0796aab9a44084d485c9e03684c36b3620095f33c5844c46b39b182c527a9b"), looks := true }, kinds := [], alts := [], laidByText := true, laidKinds := [.data, .data, .data, .data, .sentinel, .sentinel, .pinned], laidTests := true, laidLooks := .later }
def FnExactParseBarCardSaid : Prop := Claim7.holds Tryd.pinned (.plain (OpenSpec.ofChange fnExactParseBarSpec)) fnExactParseBarCard

/-- THE TIED CARD OF 'laws.FnExactParseMeter'. -/
def fnExactParseMeterCard : Claim7 := { stood := { row := fnExactParseMeterRow, standIns := [], harness := (true, "8c0796aab9a44084d485c9e03684c36b3620095f33c5844c46b39b182c527a9b"), looks := true }, kinds := [], alts := [], laidByText := true, laidKinds := [.data, .data, .data, .data, .sentinel, .sentinel, .pinned], laidTests := true, laidLooks := .later }
def FnExactParseMeterCardSaid : Prop := Claim7.holds Tryd.pinned (.plain (OpenSpec.ofChange fnExactParseMeterSpec)) fnExactParseMeterCard

/-- THE SECOND FORM's CARD OF 'laws.FnExactFormatBar'. -/
def fnExactFormatBarUptoCard : Claim7 := { stood := { row := fnExactFormatBarUptoRow, standIns := [], harness := (true, "8c0796aab9a44084d485c9e03684c36b3620095f33c5844c46b39b182c527a9b"), looks := true }, kinds := [], alts := [], laidByText := true, laidKinds := [.data, .data, .data, .data, .pinned], laidTests := true, laidLooks := .later }
def FnExactFormatBarUptoCardSaid : Prop := Claim7.holds Tryd.pinned (.plain (OpenSpec.upto fnExactFormatBarSpec)) fnExactFormatBarUptoCard

/-- THE SECOND FORM's CARD OF 'laws.FnExactFormatMeter'. -/
def fnExactFormatMeterUptoCard : Claim7 := { stood := { row := fnExactFormatMeterUptoRow, standIns := [], harness := (true, "8c0796aab9a44084d485c9e03684c36b3620095f33c5844c46b39b182c527a9b"), looks := true }, kinds := [], alts := [], laidByText := true, laidKinds := [.data, .data, .data, .data, .pinned], laidTests := true, laidLooks := .later }
def FnExactFormatMeterUptoCardSaid : Prop := Claim7.holds Tryd.pinned (.plain (OpenSpec.upto fnExactFormatMeterSpec)) fnExactFormatMeterUptoCard

/-- THE SECOND FORM's CARD OF 'laws.FnExactParseBar'. -/
def fnExactParseBarUptoCard : Claim7 := { stood := { row := fnExactParseBarUptoRow, standIns := [], harness := (true, "8c0796aab9a44084d485c9e03684c36b3620095f33c5844c46b39b182c527a9b"), looks := true }, kinds := [], alts := [], laidByText := true, laidKinds := [.data, .data, .data, .data, .sentinel, .sentinel, .pinned], laidTests := true, laidLooks := .later }
def FnExactParseBarUptoCardSaid : Prop := Claim7.holds Tryd.pinned (.plain (OpenSpec.upto fnExactParseBarSpec)) fnExactParseBarUptoCard

/-- THE SECOND FORM's CARD OF 'laws.FnExactParseMeter'. -/
def fnExactParseMeterUptoCard : Claim7 := { stood := { row := fnExactParseMeterUptoRow, standIns := [], harness := (true, "8c0796aab9a44084d485c9e03684c36b3620095f33c5844c46b39b182c527a9b"), looks := true }, kinds := [], alts := [], laidByText := true, laidKinds := [.data, .data, .data, .data, .sentinel, .sentinel, .pinned], laidTests := true, laidLooks := .later }
def FnExactParseMeterUptoCardSaid : Prop := Claim7.holds Tryd.pinned (.plain (OpenSpec.upto fnExactParseMeterSpec)) fnExactParseMeterUptoCard
end Rows
end Go.Proofs.YtedfmjijemcpaaaDoor
