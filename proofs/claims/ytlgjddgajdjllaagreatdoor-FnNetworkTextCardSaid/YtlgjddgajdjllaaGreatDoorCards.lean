/-
  DERIVED. GIVEN WITH THE SEED: THE CARDS: each row of YtlgjddgajdjllaaGreatDoorRows.lean that lists a variable, with what it lists TIED to the program's text (the seventh form; the later family's looks); each row that meets fmt, with fmt's text TOLD by the authors' own Lean function (tested against real Go, not proved from fmt's source: count such statements apart). THE CARD IS WHAT COUNTS. Prove the row's statement (the work); the ties are given (YtlgjddgajdjllaaGreatDoorTie.lean); close each card by the builder's one call (the guide's Derived/Test/ToyasCard.lean, 'card_holds'). Laid BY PROGRAM, IN A SANDBOX (cutbox-door.mjs). By AI agents, Wed Nov 11 2026. No macro, syntax, notation, axiom, sorry.
-/
import Derived.Test.YtlgjddgajdjllaaGreatDoorRows
import GoSem.ClaimSeven
namespace Go.Proofs.YtlgjddgajdjllaaGreatDoor
namespace Rows

/-- THE TIED CARD OF 'laws.FnNetworkText'. -/
def fnNetworkTextCard : Claim7 := { stood := { row := fnNetworkTextRow, standIns := [], harness := (true, "0c6e78cbbb1a43495659352dda15dd3afae70731b6c90f28ffd044af83d1da38"), looks := true }, kinds := [], alts := [], laidByText := true, laidKinds := [.data, .data, .data, .data, .sentinel, .sentinel, .pinned], laidTests := true, laidLooks := .later }
def FnNetworkTextCardSaid : Prop := Claim7.holds Tryz.pinned (.plain (OpenSpec.ofChange fnNetworkTextSpec)) fnNetworkTextCard

/-- THE TIED CARD OF 'laws.FnExactParseNetwork'. -/
def fnExactParseNetworkCard : Claim7 := { stood := { row := fnExactParseNetworkRow, standIns := [], harness := (true, "0c6e78cbbb1a43495659352dda15dd3afae70731b6c90f28ffd044af83d1da38"), looks := true }, kinds := [], alts := [], laidByText := true, laidKinds := [.data, .data, .data, .data, .sentinel, .sentinel, .pinned], laidTests := true, laidLooks := .later }
def FnExactParseNetworkCardSaid : Prop := Claim7.holds Tryz.pinned (.plain (OpenSpec.ofChange fnExactParseNetworkSpec)) fnExactParseNetworkCard

/-- THE SECOND FORM's CARD OF 'laws.FnNetworkText'. -/
def fnNetworkTextUptoCard : Claim7 := { stood := { row := fnNetworkTextUptoRow, standIns := [], harness := (true, "0c6e78cbbb1a43495659352dda15dd3afae70731b6c90f28ffd044af83d1da38"), looks := true }, kinds := [], alts := [], laidByText := true, laidKinds := [.data, .data, .data, .data, .sentinel, .sentinel, .pinned], laidTests := true, laidLooks := .later }
def FnNetworkTextUptoCardSaid : Prop := Claim7.holds Tryz.pinned (.plain (OpenSpec.upto fnNetworkTextSpec)) fnNetworkTextUptoCard

/-- THE SECOND FORM's CARD OF 'laws.FnExactParseNetwork'. -/
def fnExactParseNetworkUptoCard : Claim7 := { stood := { row := fnExactParseNetworkUptoRow, standIns := [], harness := (true, "0c6e78cbbb1a43495659352dda15dd3afae70731b6c90f28ffd044af83d1da38"), looks := true }, kinds := [], alts := [], laidByText := true, laidKinds := [.data, .data, .data, .data, .sentinel, .sentinel, .pinned], laidTests := true, laidLooks := .later }
def FnExactParseNetworkUptoCardSaid : Prop := Claim7.holds Tryz.pinned (.plain (OpenSpec.upto fnExactParseNetworkSpec)) fnExactParseNetworkUptoCard
end Rows
end Go.Proofs.YtlgjddgajdjllaaGreatDoor
