/-
  DERIVED. GIVEN WITH THE SEED: THE CARDS: each row of YtopfnfaoomigmaaDoorRows.lean that lists a variable, with what it lists TIED to the program's text (the seventh form; the later family's looks); each row that meets fmt, with fmt's text TOLD by the authors' own Lean function (tested against real Go, not proved from fmt's source: count such statements apart). THE CARD IS WHAT COUNTS. Prove the row's statement (the work); the ties are given (YtopfnfaoomigmaaDoorTie.lean); close each card by the builder's one call (the guide's Derived/Test/ToyasCard.lean, 'card_holds'). Laid BY PROGRAM, IN A SANDBOX (cutbox-door.mjs). By AI agents, Wed Nov 11 2026. No macro, syntax, notation, axiom, sorry.
-/
import Derived.Test.YtopfnfaoomigmaaDoorRows
import GoSem.ClaimSeven
namespace Go.Proofs.YtopfnfaoomigmaaDoor
namespace Rows

/-- THE TIED CARD OF 'laws.FnExactIsPlace'. -/
def fnExactIsPlaceCard : Claim7 := { stood := { row := fnExactIsPlaceRow, standIns := [], harness := (true, "900b80a7749aea6513004f52c4612c421b63aab8a69bcea56a712108c24abb00"), looks := false }, kinds := [], alts := [], laidByText := true, laidKinds := [.data, .pinned], laidTests := true, laidLooks := .later }
def FnExactIsPlaceCardSaid : Prop := Claim7.holds Tryd.pinned (.plain (OpenSpec.ofChange fnExactIsPlaceSpec)) fnExactIsPlaceCard

/-- THE TIED CARD OF 'laws.FnExactIsRegister'. -/
def fnExactIsRegisterCard : Claim7 := { stood := { row := fnExactIsRegisterRow, standIns := [], harness := (true, "900b80a7749aea6513004f52c4612c421b63aab8a69bcea56a712108c24abb00"), looks := false }, kinds := [], alts := [], laidByText := true, laidKinds := [.data, .pinned], laidTests := true, laidLooks := .later }
def FnExactIsRegisterCardSaid : Prop := Claim7.holds Tryd.pinned (.plain (OpenSpec.ofChange fnExactIsRegisterSpec)) fnExactIsRegisterCard

/-- THE TIED CARD OF 'laws.FnExactFindPlace'. -/
def fnExactFindPlaceCard : Claim7 := { stood := { row := fnExactFindPlaceRow, standIns := [], harness := (true, "900b80a7749aea6513004f52c4612c421b63aab8a69bcea56a712108c24abb00"), looks := false }, kinds := [], alts := [], laidByText := true, laidKinds := [.data, .pinned], laidTests := true, laidLooks := .later }
def FnExactFindPlaceCardSaid : Prop := Claim7.holds Tryd.pinned (.plain (OpenSpec.ofChange fnExactFindPlaceSpec)) fnExactFindPlaceCard

/-- THE TIED CARD OF 'laws.FnExactPlacesIn'. -/
def fnExactPlacesInCard : Claim7 := { stood := { row := fnExactPlacesInRow, standIns := [], harness := (true, "900b80a7749aea6513004f52c4612c421b63aab8a69bcea56a712108c24abb00"), looks := false }, kinds := [], alts := [], laidByText := true, laidKinds := [.data, .pinned], laidTests := true, laidLooks := .later }
def FnExactPlacesInCardSaid : Prop := Claim7.holds Tryd.pinned (.plain (OpenSpec.ofChange fnExactPlacesInSpec)) fnExactPlacesInCard

/-- THE TIED CARD OF 'laws.FnExactPlacesNamed'. -/
def fnExactPlacesNamedCard : Claim7 := { stood := { row := fnExactPlacesNamedRow, standIns := [], harness := (true, "900b80a7749aea6513004f52c4612c421b63aab8a69bcea56a712108c24abb00"), looks := false }, kinds := [], alts := [], laidByText := true, laidKinds := [.data, .pinned], laidTests := true, laidLooks := .later }
def FnExactPlacesNamedCardSaid : Prop := Claim7.holds Tryd.pinned (.plain (OpenSpec.ofChange fnExactPlacesNamedSpec)) fnExactPlacesNamedCard

/-- THE SECOND FORM's CARD OF 'laws.FnExactIsPlace'. -/
def fnExactIsPlaceUptoCard : Claim7 := { stood := { row := fnExactIsPlaceUptoRow, standIns := [], harness := (true, "900b80a7749aea6513004f52c4612c421b63aab8a69bcea56a712108c24abb00"), looks := false }, kinds := [], alts := [], laidByText := true, laidKinds := [.data, .pinned], laidTests := true, laidLooks := .later }
def FnExactIsPlaceUptoCardSaid : Prop := Claim7.holds Tryd.pinned (.plain (OpenSpec.upto fnExactIsPlaceSpec)) fnExactIsPlaceUptoCard

/-- THE SECOND FORM's CARD OF 'laws.FnExactIsRegister'. -/
def fnExactIsRegisterUptoCard : Claim7 := { stood := { row := fnExactIsRegisterUptoRow, standIns := [], harness := (true, "900b80a7749aea6513004f52c4612c421b63aab8a69bcea56a712108c24abb00"), looks := false }, kinds := [], alts := [], laidByText := true, laidKinds := [.data, .pinned], laidTests := true, laidLooks := .later }
def FnExactIsRegisterUptoCardSaid : Prop := Claim7.holds Tryd.pinned (.plain (OpenSpec.upto fnExactIsRegisterSpec)) fnExactIsRegisterUptoCard

/-- THE SECOND FORM's CARD OF 'laws.FnExactFindPlace'. -/
def fnExactFindPlaceUptoCard : Claim7 := { stood := { row := fnExactFindPlaceUptoRow, standIns := [], harness := (true, "900b80a7749aea6513004f52c4612c421b63aab8a69bcea56a712108c24abb00"), looks := false }, kinds := [], alts := [], laidByText := true, laidKinds := [.data, .pinned], laidTests := true, laidLooks := .later }
def FnExactFindPlaceUptoCardSaid : Prop := Claim7.holds Tryd.pinned (.plain (OpenSpec.upto fnExactFindPlaceSpec)) fnExactFindPlaceUptoCard

/-- THE SECOND FORM's CARD OF 'laws.FnExactPlacesIn'. -/
def fnExactPlacesInUptoCard : Claim7 := { stood := { row := fnExactPlacesInUptoRow, standIns := [], harness := (true, "900b80a7749aea6513004f52c4612c421b63aab8a69bcea56a712108c24abb00"), looks := false }, kinds := [], alts := [], laidByText := true, laidKinds := [.data, .pinned], laidTests := true, laidLooks := .later }
def FnExactPlacesInUptoCardSaid : Prop := Claim7.holds Tryd.pinned (.plain (OpenSpec.upto fnExactPlacesInSpec)) fnExactPlacesInUptoCard

/-- THE SECOND FORM's CARD OF 'laws.FnExactPlacesNamed'. -/
def fnExactPlacesNamedUptoCard : Claim7 := { stood := { row := fnExactPlacesNamedUptoRow, standIns := [], harness := (true, "900b80a7749aea6513004f52c4612c421b63aab8a69bcea56a712108c24abb00"), looks := false }, kinds := [], alts := [], laidByText := true, laidKinds := [.data, .pinned], laidTests := true, laidLooks := .later }
def FnExactPlacesNamedUptoCardSaid : Prop := Claim7.holds Tryd.pinned (.plain (OpenSpec.upto fnExactPlacesNamedSpec)) fnExactPlacesNamedUptoCard
end Rows
end Go.Proofs.YtopfnfaoomigmaaDoor
