/-
  DERIVED. GIVEN WITH THE SEED: THE CARDS: each row of YtfglmoedicijkaaDoorRows.lean that lists a variable, with what it lists TIED to the program's text (the seventh form; the later family's looks); each row that meets fmt, with fmt's text TOLD by the authors' own Lean function (tested against real Go, not proved from fmt's source: count such statements apart). THE CARD IS WHAT COUNTS. Prove the row's statement (the work); the ties are given (YtfglmoedicijkaaDoorTie.lean); close each card by the builder's one call (the guide's Derived/Test/ToyasCard.lean, 'card_holds'). Laid BY PROGRAM, IN A SANDBOX (cutbox-door.mjs). By AI agents, Wed Nov 11 2026. No macro, syntax, notation, axiom, sorry.
-/
import Derived.Test.YtfglmoedicijkaaDoorRows
import GoSem.ClaimSeven
namespace Go.Proofs.YtfglmoedicijkaaDoor
namespace Rows

/-- THE TIED CARD OF 'laws.FnExactGroupsBySound'. -/
def fnExactGroupsBySoundCard : Claim7 := { stood := { row := fnExactGroupsBySoundRow, standIns := [], harness := (true, "18b480283ce6abc0c67770501727d29130b3e06bed32faae6d1eaa29c73ac227"), looks := false }, kinds := [], alts := [], laidByText := true, laidKinds := [.data, .data, .data, .data, .pinned], laidTests := true, laidLooks := .later }
def FnExactGroupsBySoundCardSaid : Prop := Claim7.holds Tryd.pinned (.plain (OpenSpec.ofChange fnExactGroupsBySoundSpec)) fnExactGroupsBySoundCard

/-- THE TIED CARD OF 'laws.FnNearest'. -/
def fnNearestCard : Claim7 := { stood := { row := fnNearestRow, standIns := [], harness := (true, "18b480283ce6abc0c67770501727d29130b3e06bed32faae6d1eaa29c73ac227"), looks := false }, kinds := [], alts := [], laidByText := true, laidKinds := [.data, .pinned], laidTests := true, laidLooks := .later }
def FnNearestCardSaid : Prop := Claim7.holds Tryd.pinned (.plain (OpenSpec.ofChange fnNearestSpec)) fnNearestCard

/-- THE TIED CARD OF 'laws.FnParts'. -/
def fnPartsCard : Claim7 := { stood := { row := fnPartsRow, standIns := [], harness := (true, "18b480283ce6abc0c67770501727d29130b3e06bed32faae6d1eaa29c73ac227"), looks := false }, kinds := [], alts := [], laidByText := true, laidKinds := [.data, .pinned], laidTests := true, laidLooks := .later }
def FnPartsCardSaid : Prop := Claim7.holds Tryd.pinned (.plain (OpenSpec.ofChange fnPartsSpec)) fnPartsCard

/-- THE SECOND FORM's CARD OF 'laws.FnExactGroupsBySound'. -/
def fnExactGroupsBySoundUptoCard : Claim7 := { stood := { row := fnExactGroupsBySoundUptoRow, standIns := [], harness := (true, "18b480283ce6abc0c67770501727d29130b3e06bed32faae6d1eaa29c73ac227"), looks := false }, kinds := [], alts := [], laidByText := true, laidKinds := [.data, .data, .data, .data, .pinned], laidTests := true, laidLooks := .later }
def FnExactGroupsBySoundUptoCardSaid : Prop := Claim7.holds Tryd.pinned (.plain (OpenSpec.upto fnExactGroupsBySoundSpec)) fnExactGroupsBySoundUptoCard

/-- THE SECOND FORM's CARD OF 'laws.FnNearest'. -/
def fnNearestUptoCard : Claim7 := { stood := { row := fnNearestUptoRow, standIns := [], harness := (true, "18b480283ce6abc0c67770501727d29130b3e06bed32faae6d1eaa29c73ac227"), looks := false }, kinds := [], alts := [], laidByText := true, laidKinds := [.data, .pinned], laidTests := true, laidLooks := .later }
def FnNearestUptoCardSaid : Prop := Claim7.holds Tryd.pinned (.plain (OpenSpec.upto fnNearestSpec)) fnNearestUptoCard

/-- THE SECOND FORM's CARD OF 'laws.FnParts'. -/
def fnPartsUptoCard : Claim7 := { stood := { row := fnPartsUptoRow, standIns := [], harness := (true, "18b480283ce6abc0c67770501727d29130b3e06bed32faae6d1eaa29c73ac227"), looks := false }, kinds := [], alts := [], laidByText := true, laidKinds := [.data, .pinned], laidTests := true, laidLooks := .later }
def FnPartsUptoCardSaid : Prop := Claim7.holds Tryd.pinned (.plain (OpenSpec.upto fnPartsSpec)) fnPartsUptoCard
end Rows
end Go.Proofs.YtfglmoedicijkaaDoor
