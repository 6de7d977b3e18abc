/-
  DERIVED. GIVEN WITH THE SEED: THE CARDS: each row of YtajgjccnhippcaaGreatDoorRows.lean that lists a variable, with what it lists TIED to the program's text (the seventh form; the later family's looks); each row that meets fmt, with fmt's text TOLD by the authors' own Lean function (tested against real Go, not proved from fmt's source: count such statements apart). THE CARD IS WHAT COUNTS. Prove the row's statement (the work); the ties are given (YtajgjccnhippcaaGreatDoorTie.lean); close each card by the builder's one call (the guide's Derived/Test/ToyasCard.lean, 'card_holds'). Laid BY PROGRAM, IN A SANDBOX (cutbox-door.mjs). By AI agents, Wed Nov 11 2026. No macro, syntax, notation, axiom, sorry.
-/
import Derived.Test.YtajgjccnhippcaaGreatDoorRows
import GoSem.ClaimSeven
namespace Go.Proofs.YtajgjccnhippcaaGreatDoor
namespace Rows

/-- THE TIED CARD OF 'laws.FnExactOfficialYears'. -/
def fnExactOfficialYearsCard : Claim7 := { stood := { row := fnExactOfficialYearsRow, standIns := [], harness := (true, "5b5f504d44efa150685546154caf36bc97c148bfed8cdbb25be24fc4e0266713"), looks := true }, kinds := [], alts := [], laidByText := true, laidKinds := [.data, .pinned], laidTests := true, laidLooks := .later }
def FnExactOfficialYearsCardSaid : Prop := Claim7.holds Tryz.pinned (.plain (OpenSpec.ofChange fnExactOfficialYearsSpec)) fnExactOfficialYearsCard

/-- THE TIED CARD OF 'laws.FnNames'. -/
def fnNamesCard : Claim7 := { stood := { row := fnNamesRow, standIns := [], harness := (true, "5b5f504d44efa150685546154caf36bc97c148bfed8cdbb25be24fc4e0266713"), looks := true }, kinds := [], alts := [], laidByText := true, laidKinds := [.data, .pinned], laidTests := true, laidLooks := .later }
def FnNamesCardSaid : Prop := Claim7.holds Tryz.pinned (.plain (OpenSpec.ofChange fnNamesSpec)) fnNamesCard

/-- THE TIED CARD OF 'laws.FnOfficialYears'. -/
def fnOfficialYearsCard : Claim7 := { stood := { row := fnOfficialYearsRow, standIns := [], harness := (true, "5b5f504d44efa150685546154caf36bc97c148bfed8cdbb25be24fc4e0266713"), looks := true }, kinds := [], alts := [], laidByText := true, laidKinds := [.data, .pinned], laidTests := true, laidLooks := .later }
def FnOfficialYearsCardSaid : Prop := Claim7.holds Tryz.pinned (.plain (OpenSpec.ofChange fnOfficialYearsSpec)) fnOfficialYearsCard

/-- THE TIED CARD OF 'laws.FnNameTexts'. -/
def fnNameTextsCard : Claim7 := { stood := { row := fnNameTextsRow, standIns := [], harness := (true, "5b5f504d44efa150685546154caf36bc97c148bfed8cdbb25be24fc4e0266713"), looks := true }, kinds := [], alts := [], laidByText := true, laidKinds := [.data, .data, .data, .data, .sentinel, .sentinel, .pinned], laidTests := true, laidLooks := .later }
def FnNameTextsCardSaid : Prop := Claim7.holds Tryz.pinned (.plain (OpenSpec.ofChange fnNameTextsSpec)) fnNameTextsCard

/-- THE SECOND FORM's CARD OF 'laws.FnExactOfficialYears'. -/
def fnExactOfficialYearsUptoCard : Claim7 := { stood := { row := fnExactOfficialYearsUptoRow, standIns := [], harness := (true, "5b5f504d44efa150685546154caf36bc97c148bfed8cdbb25be24fc4e0266713"), looks := true }, kinds := [], alts := [], laidByText := true, laidKinds := [.data, .pinned], laidTests := true, laidLooks := .later }
def FnExactOfficialYearsUptoCardSaid : Prop := Claim7.holds Tryz.pinned (.plain (OpenSpec.upto fnExactOfficialYearsSpec)) fnExactOfficialYearsUptoCard

/-- THE SECOND FORM's CARD OF 'laws.FnNames'. -/
def fnNamesUptoCard : Claim7 := { stood := { row := fnNamesUptoRow, standIns := [], harness := (true, "5b5f504d44efa150685546154caf36bc97c148bfed8cdbb25be24fc4e0266713"), looks := true }, kinds := [], alts := [], laidByText := true, laidKinds := [.data, .pinned], laidTests := true, laidLooks := .later }
def FnNamesUptoCardSaid : Prop := Claim7.holds Tryz.pinned (.plain (OpenSpec.upto fnNamesSpec)) fnNamesUptoCard

/-- THE SECOND FORM's CARD OF 'laws.FnOfficialYears'. -/
def fnOfficialYearsUptoCard : Claim7 := { stood := { row := fnOfficialYearsUptoRow, standIns := [], harness := (true, "5b5f504d44efa150685546154caf36bc97c148bfed8cdbb25be24fc4e0266713"), looks := true }, kinds := [], alts := [], laidByText := true, laidKinds := [.data, .pinned], laidTests := true, laidLooks := .later }
def FnOfficialYearsUptoCardSaid : Prop := Claim7.holds Tryz.pinned (.plain (OpenSpec.upto fnOfficialYearsSpec)) fnOfficialYearsUptoCard

/-- THE SECOND FORM's CARD OF 'laws.FnNameTexts'. -/
def fnNameTextsUptoCard : Claim7 := { stood := { row := fnNameTextsUptoRow, standIns := [], harness := (true, "5b5f504d44efa150685546154caf36bc97c148bfed8cdbb25be24fc4e0266713"), looks := true }, kinds := [], alts := [], laidByText := true, laidKinds := [.data, .data, .data, .data, .sentinel, .sentinel, .pinned], laidTests := true, laidLooks := .later }
def FnNameTextsUptoCardSaid : Prop := Claim7.holds Tryz.pinned (.plain (OpenSpec.upto fnNameTextsSpec)) fnNameTextsUptoCard
end Rows
end Go.Proofs.YtajgjccnhippcaaGreatDoor
