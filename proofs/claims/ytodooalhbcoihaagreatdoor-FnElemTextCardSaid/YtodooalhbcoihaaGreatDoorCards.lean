/-
  DERIVED. GIVEN WITH THE SEED: THE CARDS: each row of YtodooalhbcoihaaGreatDoorRows.lean that lists a variable, with what it lists TIED to the program's text (the seventh form; the later family's looks); each row that meets fmt, with fmt's text TOLD by the authors' own Lean function (tested against real Go, not proved from fmt's source: count such statements apart). THE CARD IS WHAT COUNTS. Prove the row's statement (the work); the ties are given (YtodooalhbcoihaaGreatDoorTie.lean); close each card by the builder's one call (the guide's Derived/Test/ToyasCard.lean, 'card_holds'). Laid BY PROGRAM, IN A SANDBOX (cutbox-door.mjs). By AI agents, Wed Nov 11 2026. No macro, syntax, notation, axiom, sorry.
-/
import Derived.Test.YtodooalhbcoihaaGreatDoorRows
import GoSem.ClaimSeven
namespace Go.Proofs.YtodooalhbcoihaaGreatDoor
namespace Rows

/-- THE TIED CARD OF 'laws.FnElemText'. -/
def fnElemTextCard : Claim7 := { stood := { row := fnElemTextRow, standIns := [], harness := (true, "954ac626606e8dfc7a911525a5db044e506ef3cd44ed1e84aff3cf4a255faaf7"), looks := true }, kinds := [], alts := [], laidByText := true, laidKinds := [.data, .data, .data, .data, .sentinel, .sentinel, .pinned], laidTests := true, laidLooks := .later }
def FnElemTextCardSaid : Prop := Claim7.holds Tryz.pinned (.plain (OpenSpec.ofChange fnElemTextSpec)) fnElemTextCard

/-- THE TIED CARD OF 'laws.FnExactParseTensor'. -/
def fnExactParseTensorCard : Claim7 := { stood := { row := fnExactParseTensorRow, standIns := [], harness := (true, "954ac626606e8dfc7a911525a5db044e506ef3cd44ed1e84aff3cf4a255faaf7"), looks := true }, kinds := [], alts := [], laidByText := true, laidKinds := [.data, .data, .data, .data, .sentinel, .sentinel, .pinned], laidTests := true, laidLooks := .later }
def FnExactParseTensorCardSaid : Prop := Claim7.holds Tryz.pinned (.plain (OpenSpec.ofChange fnExactParseTensorSpec)) fnExactParseTensorCard

/-- THE TIED CARD OF 'laws.FnNetworkText'. -/
def fnNetworkTextCard : Claim7 := { stood := { row := fnNetworkTextRow, standIns := [], harness := (true, "954ac626606e8dfc7a911525a5db044e506ef3cd44ed1e84aff3cf4a255faaf7"), looks := true }, kinds := [], alts := [], laidByText := true, laidKinds := [.data, .data, .data, .data, .sentinel, .sentinel, .pinned], laidTests := true, laidLooks := .later }
def FnNetworkTextCardSaid : Prop := Claim7.holds Tryz.pinned (.plain (OpenSpec.ofChange fnNetworkTextSpec)) fnNetworkTextCard

/-- THE TIED CARD OF 'laws.FnExactParseNetwork'. -/
def fnExactParseNetworkCard : Claim7 := { stood := { row := fnExactParseNetworkRow, standIns := [], harness := (true, "954ac626606e8dfc7a911525a5db044e506ef3cd44ed1e84aff3cf4a255faaf7"), looks := true }, kinds := [], alts := [], laidByText := true, laidKinds := [.data, .data, .data, .data, .sentinel, .sentinel, .pinned], laidTests := true, laidLooks := .later }
def FnExactParseNetworkCardSaid : Prop := Claim7.holds Tryz.pinned (.plain (OpenSpec.ofChange fnExactParseNetworkSpec)) fnExactParseNetworkCard

/-- THE SECOND FORM's CARD OF 'laws.FnElemText'. -/
def fnElemTextUptoCard : Claim7 := { stood := { row := fnElemTextUptoRow, standIns := [], harness := (true, "954ac626606e8dfc7a911525a5db044e506ef3cd44ed1e84aff3cf4a255faaf7"), looks := true }, kinds := [], alts := [], laidByText := true, laidKinds := [.data, .data, .data, .data, .sentinel, .sentinel, .pinned], laidTests := true, laidLooks := .later }
def FnElemTextUptoCardSaid : Prop := Claim7.holds Tryz.pinned (.plain (OpenSpec.upto fnElemTextSpec)) fnElemTextUptoCard

/-- THE SECOND FORM's CARD OF 'laws.FnExactParseTensor'. -/
def fnExactParseTensorUptoCard : Claim7 := { stood := { row := fnExactParseTensorUptoRow, standIns := [], harness := (true, "954ac626606e8dfc7a911525a5db044e506ef3cd44ed1e84aff3cf4a255faaf7"), looks := true }, kinds := [], alts := [], laidByText := true, laidKinds := [.data, .data, .data, .data, .sentinel, .sentinel, .pinned], laidTests := true, laidLooks := .later }
def FnExactParseTensorUptoCardSaid : Prop := Claim7.holds Tryz.pinned (.plain (OpenSpec.upto fnExactParseTensorSpec)) fnExactParseTensorUptoCard

/-- THE SECOND FORM's CARD OF 'laws.FnNetworkText'. -/
def fnNetworkTextUptoCard : Claim7 := { stood := { row := fnNetworkTextUptoRow, standIns := [], harness := (true, "954ac626606e8dfc7a911525a5db044e506ef3cd44ed1e84aff3cf4a255faaf7"), looks := true }, kinds := [], alts := [], laidByText := true, laidKinds := [.data, .data, .data, .data, .sentinel, .sentinel, .pinned], laidTests := true, laidLooks := .later }
def FnNetworkTextUptoCardSaid : Prop := Claim7.holds Tryz.pinned (.plain (OpenSpec.upto fnNetworkTextSpec)) fnNetworkTextUptoCard

/-- THE SECOND FORM's CARD OF 'laws.FnExactParseNetwork'. -/
def fnExactParseNetworkUptoCard : Claim7 := { stood := { row := fnExactParseNetworkUptoRow, standIns := [], harness := (true, "954ac626606e8dfc7a911525a5db044e506ef3cd44ed1e84aff3cf4a255faaf7"), looks := true }, kinds := [], alts := [], laidByText := true, laidKinds := [.data, .data, .data, .data, .sentinel, .sentinel, .pinned], laidTests := true, laidLooks := .later }
def FnExactParseNetworkUptoCardSaid : Prop := Claim7.holds Tryz.pinned (.plain (OpenSpec.upto fnExactParseNetworkSpec)) fnExactParseNetworkUptoCard
end Rows
end Go.Proofs.YtodooalhbcoihaaGreatDoor
