/-
  DERIVED. GIVEN WITH THE SEED: THE CARDS: each row of YteencdgaldhanaaGreatDoorRows.lean that lists a variable, with what it lists TIED to the program's text (the seventh form; the later family's looks); each row that meets fmt, with fmt's text TOLD by the authors' own Lean function (tested against real Go, not proved from fmt's source: count such statements apart). THE CARD IS WHAT COUNTS. Prove the row's statement (the work); the ties are given (YteencdgaldhanaaGreatDoorTie.lean); close each card by the builder's one call (the guide's Derived/Test/ToyasCard.lean, 'card_holds'). Laid BY PROGRAM, IN A SANDBOX (cutbox-door.mjs). By AI agents, Wed Nov 11 2026. No macro, syntax, notation, axiom, sorry.
-/
import Derived.Test.YteencdgaldhanaaGreatDoorRows
import GoSem.ClaimSeven
namespace Go.Proofs.YteencdgaldhanaaGreatDoor
namespace Rows

/-- THE TIED CARD OF 'laws.FnExactOfficialYears'. -/
def fnExactOfficialYearsCard : Claim7 := { stood := { row := fnExactOfficialYearsRow, standIns := [], harness := (true, "cca8a10dc4788d666c95ab8daf18f42d32d538ebadde88127171728268961623"), looks := false }, kinds := [], alts := [], laidByText := true, laidKinds := [.data, .pinned], laidTests := true, laidLooks := .later }
def FnExactOfficialYearsCardSaid : Prop := Claim7.holds Tryz.pinned (.plain (OpenSpec.ofChange fnExactOfficialYearsSpec)) fnExactOfficialYearsCard

/-- THE TIED CARD OF 'laws.FnNames'. -/
def fnNamesCard : Claim7 := { stood := { row := fnNamesRow, standIns := [], harness := (true, "cca8a10dc4788d666c95ab8daf18f42d32d538ebadde88127171728268961623"), looks := false }, kinds := [], alts := [], laidByText := true, laidKinds := [.data, .pinned], laidTests := true, laidLooks := .later }
def FnNamesCardSaid : Prop := Claim7.holds Tryz.pinned (.plain (OpenSpec.ofChange fnNamesSpec)) fnNamesCard

/-- THE TIED CARD OF 'laws.FnOfficialYears'. -/
def fnOfficialYearsCard : Claim7 := { stood := { row := fnOfficialYearsRow, standIns := [], harness := (true, "cca8a10dc4788d666c95ab8daf18f42d32d538ebadde88127171728268961623"), looks := false }, kinds := [], alts := [], laidByText := true, laidKinds := [.data, .pinned], laidTests := true, laidLooks := .later }
def FnOfficialYearsCardSaid : Prop := Claim7.holds Tryz.pinned (.plain (OpenSpec.ofChange fnOfficialYearsSpec)) fnOfficialYearsCard

/-- THE SECOND FORM's CARD OF 'laws.FnExactOfficialYears'. -/
def fnExactOfficialYearsUptoCard : Claim7 := { stood := { row := fnExactOfficialYearsUptoRow, standIns := [], harness := (true, "cca8a10dc4788d666c95ab8daf18f42d32d538ebadde88127171728268961623"), looks := false }, kinds := [], alts := [], laidByText := true, laidKinds := [.data, .pinned], laidTests := true, laidLooks := .later }
def FnExactOfficialYearsUptoCardSaid : Prop := Claim7.holds Tryz.pinned (.plain (OpenSpec.upto fnExactOfficialYearsSpec)) fnExactOfficialYearsUptoCard

/-- THE SECOND FORM's CARD OF 'laws.FnNames'. -/
def fnNamesUptoCard : Claim7 := { stood := { row := fnNamesUptoRow, standIns := [], harness := (true, "cca8a10dc4788d666c95ab8daf18f42d32d538ebadde88127171728268961623"), looks := false }, kinds := [], alts := [], laidByText := true, laidKinds := [.data, .pinned], laidTests := true, laidLooks := .later }
def FnNamesUptoCardSaid : Prop := Claim7.holds Tryz.pinned (.plain (OpenSpec.upto fnNamesSpec)) fnNamesUptoCard

/-- THE SECOND FORM's CARD OF 'laws.FnOfficialYears'. -/
def fnOfficialYearsUptoCard : Claim7 := { stood := { row := fnOfficialYearsUptoRow, standIns := [], harness := (true, "cca8a10dc4788d666c95ab8daf18f42d32d538ebadde88127171728268961623"), looks := false }, kinds := [], alts := [], laidByText := true, laidKinds := [.data, .pinned], laidTests := true, laidLooks := .later }
def FnOfficialYearsUptoCardSaid : Prop := Claim7.holds Tryz.pinned (.plain (OpenSpec.upto fnOfficialYearsSpec)) fnOfficialYearsUptoCard
end Rows
end Go.Proofs.YteencdgaldhanaaGreatDoor
