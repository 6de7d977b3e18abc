/-
  DERIVED. GIVEN WITH THE SEED: THE CARDS: each row of YtjelmidkkpchkaaGreatDoorRows.lean that lists a variable, with what it lists TIED to the program's text (the seventh form; the later family's looks); each row that meets fmt, with fmt's text TOLD by the authors' own Lean function (tested against real Go, not proved from fmt's source: count such statements apart). THE CARD IS WHAT COUNTS. Prove the row's statement (the work); the ties are given (YtjelmidkkpchkaaGreatDoorTie.lean); close each card by the builder's one call (the guide's Derived/Test/ToyasCard.lean, 'card_holds'). Laid BY PROGRAM, IN A SANDBOX (cutbox-door.mjs). By AI agents, Wed Nov 11 2026. No macro, syntax, notation, axiom, sorry.
-/
import Derived.Test.YtjelmidkkpchkaaGreatDoorRows
import GoSem.ClaimSeven
namespace Go.Proofs.YtjelmidkkpchkaaGreatDoor
namespace Rows

/-- THE TIED CARD OF 'laws.FnPlacesByName'. -/
def fnPlacesByNameCard : Claim7 := { stood := { row := fnPlacesByNameRow, standIns := [], harness := (true, "1ca150c01fa972d64e73e479167708cdaf052156075c11febe27bcd0a064961c"), looks := false }, kinds := [], alts := [], laidByText := true, laidKinds := [.data, .pinned], laidTests := true, laidLooks := .later }
def FnPlacesByNameCardSaid : Prop := Claim7.holds Tryz.pinned (.plain (OpenSpec.ofChange fnPlacesByNameSpec)) fnPlacesByNameCard

/-- THE TIED CARD OF 'laws.FnSorted'. -/
def fnSortedCard : Claim7 := { stood := { row := fnSortedRow, standIns := [], harness := (true, "1ca150c01fa972d64e73e479167708cdaf052156075c11febe27bcd0a064961c"), looks := false }, kinds := [], alts := [], laidByText := true, laidKinds := [.data, .data, .data, .data, .pinned], laidTests := true, laidLooks := .later }
def FnSortedCardSaid : Prop := Claim7.holds Tryz.pinned (.plain (OpenSpec.ofChange fnSortedSpec)) fnSortedCard

/-- THE SECOND FORM's CARD OF 'laws.FnPlacesByName'. -/
def fnPlacesByNameUptoCard : Claim7 := { stood := { row := fnPlacesByNameUptoRow, standIns := [], harness := (true, "1ca150c01fa972d64e73e479167708cdaf052156075c11febe27bcd0a064961c"), looks := false }, kinds := [], alts := [], laidByText := true, laidKinds := [.data, .pinned], laidTests := true, laidLooks := .later }
def FnPlacesByNameUptoCardSaid : Prop := Claim7.holds Tryz.pinned (.plain (OpenSpec.upto fnPlacesByNameSpec)) fnPlacesByNameUptoCard

/-- THE SECOND FORM's CARD OF 'laws.FnSorted'. -/
def fnSortedUptoCard : Claim7 := { stood := { row := fnSortedUptoRow, standIns := [], harness := (true, "1ca150c01fa972d64e73e479167708cdaf052156075c11febe27bcd0a064961c"), looks := false }, kinds := [], alts := [], laidByText := true, laidKinds := [.data, .data, .data, .data, .pinned], laidTests := true, laidLooks := .later }
def FnSortedUptoCardSaid : Prop := Claim7.holds Tryz.pinned (.plain (OpenSpec.upto fnSortedSpec)) fnSortedUptoCard
end Rows
end Go.Proofs.YtjelmidkkpchkaaGreatDoor
