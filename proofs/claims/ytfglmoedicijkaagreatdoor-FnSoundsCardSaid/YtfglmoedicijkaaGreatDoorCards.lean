/-
  DERIVED. GIVEN WITH THE SEED: THE CARDS: each row of YtfglmoedicijkaaGreatDoorRows.lean that lists a variable, with what it lists TIED to the program's text (the seventh form; the later family's looks); each row that meets fmt, with fmt's text TOLD by the authors' own Lean function (tested against real Go, not proved from fmt's source: count such statements apart). THE CARD IS WHAT COUNTS. Prove the row's statement (the work); the ties are given (YtfglmoedicijkaaGreatDoorTie.lean); close each card by the builder's one call (the guide's Derived/Test/ToyasCard.lean, 'card_holds'). Laid BY PROGRAM, IN A SANDBOX (cutbox-door.mjs). By AI agents, Wed Nov 11 2026. No macro, syntax, notation, axiom, sorry.
-/
import Derived.Test.YtfglmoedicijkaaGreatDoorRows
import GoSem.ClaimSeven
namespace Go.Proofs.YtfglmoedicijkaaGreatDoor
namespace Rows

/-- THE TIED CARD OF 'laws.FnSounds'. -/
def fnSoundsCard : Claim7 := { stood := { row := fnSoundsRow, standIns := [], harness := (true, "d11e1119ca3a8fdc3d3f9e996927fa9fcbdbb064f176c497b5d99cf16968e3cd"), looks := false }, kinds := [], alts := [], laidByText := true, laidKinds := [.data, .data, .data, .data, .pinned], laidTests := true, laidLooks := .later }
def FnSoundsCardSaid : Prop := Claim7.holds Tryz.pinned (.plain (OpenSpec.ofChange fnSoundsSpec)) fnSoundsCard

/-- THE TIED CARD OF 'laws.FnForms'. -/
def fnFormsCard : Claim7 := { stood := { row := fnFormsRow, standIns := [], harness := (true, "d11e1119ca3a8fdc3d3f9e996927fa9fcbdbb064f176c497b5d99cf16968e3cd"), looks := false }, kinds := [], alts := [], laidByText := true, laidKinds := [.data, .pinned], laidTests := true, laidLooks := .later }
def FnFormsCardSaid : Prop := Claim7.holds Tryz.pinned (.plain (OpenSpec.ofChange fnFormsSpec)) fnFormsCard

/-- THE SECOND FORM's CARD OF 'laws.FnSounds'. -/
def fnSoundsUptoCard : Claim7 := { stood := { row := fnSoundsUptoRow, standIns := [], harness := (true, "d11e1119ca3a8fdc3d3f9e996927fa9fcbdbb064f176c497b5d99cf16968e3cd"), looks := false }, kinds := [], alts := [], laidByText := true, laidKinds := [.data, .data, .data, .data, .pinned], laidTests := true, laidLooks := .later }
def FnSoundsUptoCardSaid : Prop := Claim7.holds Tryz.pinned (.plain (OpenSpec.upto fnSoundsSpec)) fnSoundsUptoCard

/-- THE SECOND FORM's CARD OF 'laws.FnForms'. -/
def fnFormsUptoCard : Claim7 := { stood := { row := fnFormsUptoRow, standIns := [], harness := (true, "d11e1119ca3a8fdc3d3f9e996927fa9fcbdbb064f176c497b5d99cf16968e3cd"), looks := false }, kinds := [], alts := [], laidByText := true, laidKinds := [.data, .pinned], laidTests := true, laidLooks := .later }
def FnFormsUptoCardSaid : Prop := Claim7.holds Tryz.pinned (.plain (OpenSpec.upto fnFormsSpec)) fnFormsUptoCard
end Rows
end Go.Proofs.YtfglmoedicijkaaGreatDoor
