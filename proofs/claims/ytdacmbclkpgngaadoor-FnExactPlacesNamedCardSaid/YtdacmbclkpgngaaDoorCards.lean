/-
  DERIVED. GIVEN WITH THE SEED: THE CARDS: each row of YtdacmbclkpgngaaDoorRows.lean that lists a variable, with what it lists TIED to the program's text (the seventh form; the later family's looks); each row that meets fmt, with fmt's text TOLD by the authors' own Lean function (tested against real Go, not proved from fmt's source: count such statements apart). THE CARD IS WHAT COUNTS. Prove the row's statement (the work); the ties are given (YtdacmbclkpgngaaDoorTie.lean); close each card by the builder's one call (the guide's Derived/Test/ToyasCard.lean, 'card_holds'). Laid BY PROGRAM, IN A SANDBOX (cutbox-door.mjs). By AI agents, Wed Nov 11 2026. No macro, syntax, notation, axiom, sorry.
-/
import Derived.Test.YtdacmbclkpgngaaDoorRows
import GoSem.ClaimSeven
namespace Go.Proofs.YtdacmbclkpgngaaDoor
namespace Rows

/-- THE TIED CARD OF 'laws.FnExactPlacesNamed'. -/
def fnExactPlacesNamedCard : Claim7 := { stood := { row := fnExactPlacesNamedRow, standIns := [], harness := (true, "7382409b7a8d07371c6854bf7b8672e7f48064a9696085755da686f28fa409af"), looks := false }, kinds := [], alts := [], laidByText := true, laidKinds := [.data, .pinned], laidTests := true, laidLooks := .later }
def FnExactPlacesNamedCardSaid : Prop := Claim7.holds Tryd.pinned (.plain (OpenSpec.ofChange fnExactPlacesNamedSpec)) fnExactPlacesNamedCard

/-- THE SECOND FORM's CARD OF 'laws.FnExactPlacesNamed'. -/
def fnExactPlacesNamedUptoCard : Claim7 := { stood := { row := fnExactPlacesNamedUptoRow, standIns := [], harness := (true, "7382409b7a8d07371c6854bf7b8672e7f48064a9696085755da686f28fa409af"), looks := false }, kinds := [], alts := [], laidByText := true, laidKinds := [.data, .pinned], laidTests := true, laidLooks := .later }
def FnExactPlacesNamedUptoCardSaid : Prop := Claim7.holds Tryd.pinned (.plain (OpenSpec.upto fnExactPlacesNamedSpec)) fnExactPlacesNamedUptoCard
end Rows
end Go.Proofs.YtdacmbclkpgngaaDoor
