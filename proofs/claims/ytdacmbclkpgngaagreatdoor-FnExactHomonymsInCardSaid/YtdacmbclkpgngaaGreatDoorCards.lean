/-
  DERIVED. GIVEN WITH THE SEED: THE CARDS: each row of YtdacmbclkpgngaaGreatDoorRows.lean that lists a variable, with what it lists TIED to the program's text (the seventh form; the later family's looks); each row that meets fmt, with fmt's text TOLD by the authors' own Lean function (tested against real Go, not proved from fmt's source: count such statements apart). THE CARD IS WHAT COUNTS. Prove the row's statement (the work); the ties are given (YtdacmbclkpgngaaGreatDoorTie.lean); close each card by the builder's one call (the guide's Derived/Test/ToyasCard.lean, 'card_holds'). Laid BY PROGRAM, IN A SANDBOX (cutbox-door.mjs). By AI agents, Wed Nov 11 2026. No macro, syntax, notation, axiom, sorry.
-/
import Derived.Test.YtdacmbclkpgngaaGreatDoorRows
import GoSem.ClaimSeven
namespace Go.Proofs.YtdacmbclkpgngaaGreatDoor
namespace Rows

/-- THE TIED CARD OF 'laws.FnExactHomonymsIn'. -/
def fnExactHomonymsInCard : Claim7 := { stood := { row := fnExactHomonymsInRow, standIns := [], harness := (true, "a5b12d77ebba8e9081df6fc3710b3583195ae71c0f6eb6ab0df507573f60a782"), looks := false }, kinds := [], alts := [], laidByText := true, laidKinds := [.data, .pinned], laidTests := true, laidLooks := .later }
def FnExactHomonymsInCardSaid : Prop := Claim7.holds Tryz.pinned (.plain (OpenSpec.ofChange fnExactHomonymsInSpec)) fnExactHomonymsInCard

/-- THE TIED CARD OF 'laws.FnExactNameOf'. -/
def fnExactNameOfCard : Claim7 := { stood := { row := fnExactNameOfRow, standIns := [], harness := (true, "a5b12d77ebba8e9081df6fc3710b3583195ae71c0f6eb6ab0df507573f60a782"), looks := false }, kinds := [], alts := [], laidByText := true, laidKinds := [.data, .pinned], laidTests := true, laidLooks := .later }
def FnExactNameOfCardSaid : Prop := Claim7.holds Tryz.pinned (.plain (OpenSpec.ofChange fnExactNameOfSpec)) fnExactNameOfCard

/-- THE TIED CARD OF 'laws.FnExactPlacesOfKind'. -/
def fnExactPlacesOfKindCard : Claim7 := { stood := { row := fnExactPlacesOfKindRow, standIns := [], harness := (true, "a5b12d77ebba8e9081df6fc3710b3583195ae71c0f6eb6ab0df507573f60a782"), looks := false }, kinds := [], alts := [], laidByText := true, laidKinds := [.data, .pinned], laidTests := true, laidLooks := .later }
def FnExactPlacesOfKindCardSaid : Prop := Claim7.holds Tryz.pinned (.plain (OpenSpec.ofChange fnExactPlacesOfKindSpec)) fnExactPlacesOfKindCard

/-- THE TIED CARD OF 'laws.FnPlacesByName'. -/
def fnPlacesByNameCard : Claim7 := { stood := { row := fnPlacesByNameRow, standIns := [], harness := (true, "a5b12d77ebba8e9081df6fc3710b3583195ae71c0f6eb6ab0df507573f60a782"), looks := false }, kinds := [], alts := [], laidByText := true, laidKinds := [.data, .pinned], laidTests := true, laidLooks := .later }
def FnPlacesByNameCardSaid : Prop := Claim7.holds Tryz.pinned (.plain (OpenSpec.ofChange fnPlacesByNameSpec)) fnPlacesByNameCard

/-- THE SECOND FORM's CARD OF 'laws.FnExactHomonymsIn'. -/
def fnExactHomonymsInUptoCard : Claim7 := { stood := { row := fnExactHomonymsInUptoRow, standIns := [], harness := (true, "a5b12d77ebba8e9081df6fc3710b3583195ae71c0f6eb6ab0df507573f60a782"), looks := false }, kinds := [], alts := [], laidByText := true, laidKinds := [.data, .pinned], laidTests := true, laidLooks := .later }
def FnExactHomonymsInUptoCardSaid : Prop := Claim7.holds Tryz.pinned (.plain (OpenSpec.upto fnExactHomonymsInSpec)) fnExactHomonymsInUptoCard

/-- THE SECOND FORM's CARD OF 'laws.FnExactNameOf'. -/
def fnExactNameOfUptoCard : Claim7 := { stood := { row := fnExactNameOfUptoRow, standIns := [], harness := (true, "a5b12d77ebba8e9081df6fc3710b3583195ae71c0f6eb6ab0df507573f60a782"), looks := false }, kinds := [], alts := [], laidByText := true, laidKinds := [.data, .pinned], laidTests := true, laidLooks := .later }
def FnExactNameOfUptoCardSaid : Prop := Claim7.holds Tryz.pinned (.plain (OpenSpec.upto fnExactNameOfSpec)) fnExactNameOfUptoCard

/-- THE SECOND FORM's CARD OF 'laws.FnExactPlacesOfKind'. -/
def fnExactPlacesOfKindUptoCard : Claim7 := { stood := { row := fnExactPlacesOfKindUptoRow, standIns := [], harness := (true, "a5b12d77ebba8e9081df6fc3710b3583195ae71c0f6eb6ab0df507573f60a782"), looks := false }, kinds := [], alts := [], laidByText := true, laidKinds := [.data, .pinned], laidTests := true, laidLooks := .later }
def FnExactPlacesOfKindUptoCardSaid : Prop := Claim7.holds Tryz.pinned (.plain (OpenSpec.upto fnExactPlacesOfKindSpec)) fnExactPlacesOfKindUptoCard

/-- THE SECOND FORM's CARD OF 'laws.FnPlacesByName'. -/
def fnPlacesByNameUptoCard : Claim7 := { stood := { row := fnPlacesByNameUptoRow, standIns := [], harness := (true, "a5b12d77ebba8e9081df6fc3710b3583195ae71c0f6eb6ab0df507573f60a782"), looks := false }, kinds := [], alts := [], laidByText := true, laidKinds := [.data, .pinned], laidTests := true, laidLooks := .later }
def FnPlacesByNameUptoCardSaid : Prop := Claim7.holds Tryz.pinned (.plain (OpenSpec.upto fnPlacesByNameSpec)) fnPlacesByNameUptoCard
end Rows
end Go.Proofs.YtdacmbclkpgngaaGreatDoor
