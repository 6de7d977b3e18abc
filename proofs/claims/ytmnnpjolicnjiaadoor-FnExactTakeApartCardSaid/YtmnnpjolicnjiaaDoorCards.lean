/-
  DERIVED. GIVEN WITH THE SEED: THE CARDS: each row of YtmnnpjolicnjiaaDoorRows.lean that lists a variable, with what it lists TIED to the program's text (the seventh form; the later family's looks); each row that meets fmt, with fmt's text TOLD by the authors' own Lean function (tested against real Go, not proved from fmt's source: count such statements apart). THE CARD IS WHAT COUNTS. Prove the row's statement (the work); the ties are given (YtmnnpjolicnjiaaDoorTie.lean); close each card by the builder's one call (the guide's Derived/Test/ToyasCard.lean, 'card_holds'). Laid BY PROGRAM, IN A SANDBOX (cutbox-door.mjs). By AI agents, Wed Nov 11 2026. No macro, syntax, notation, axiom, sorry.
-/
import Derived.Test.YtmnnpjolicnjiaaDoorRows
import GoSem.ClaimSeven
namespace Go.Proofs.YtmnnpjolicnjiaaDoor
namespace Rows

/-- THE TIED CARD OF 'laws.FnExactAreGenerics'. -/
def fnExactAreGenericsCard : Claim7 := { stood := { row := fnExactAreGenericsRow, standIns := [], harness := (true, "e11c83f183eb16faf10536b39d5c643eb8ec6c43c10154af9364a23056137665"), looks := false }, kinds := [], alts := [], laidByText := true, laidKinds := [.data, .pinned], laidTests := true, laidLooks := .later }
def FnExactAreGenericsCardSaid : Prop := Claim7.holds Tryd.pinned (.plain (OpenSpec.ofChange fnExactAreGenericsSpec)) fnExactAreGenericsCard

/-- THE TIED CARD OF 'laws.FnExactIsEndingTable'. -/
def fnExactIsEndingTableCard : Claim7 := { stood := { row := fnExactIsEndingTableRow, standIns := [], harness := (true, "e11c83f183eb16faf10536b39d5c643eb8ec6c43c10154af9364a23056137665"), looks := false }, kinds := [], alts := [], laidByText := true, laidKinds := [.data, .pinned], laidTests := true, laidLooks := .later }
def FnExactIsEndingTableCardSaid : Prop := Claim7.holds Tryd.pinned (.plain (OpenSpec.ofChange fnExactIsEndingTableSpec)) fnExactIsEndingTableCard

/-- THE TIED CARD OF 'laws.FnExactPutTogether'. -/
def fnExactPutTogetherCard : Claim7 := { stood := { row := fnExactPutTogetherRow, standIns := [], harness := (true, "e11c83f183eb16faf10536b39d5c643eb8ec6c43c10154af9364a23056137665"), looks := false }, kinds := [], alts := [], laidByText := true, laidKinds := [.data, .pinned], laidTests := true, laidLooks := .later }
def FnExactPutTogetherCardSaid : Prop := Claim7.holds Tryd.pinned (.plain (OpenSpec.ofChange fnExactPutTogetherSpec)) fnExactPutTogetherCard

/-- THE TIED CARD OF 'laws.FnExactTakeApart'. -/
def fnExactTakeApartCard : Claim7 := { stood := { row := fnExactTakeApartRow, standIns := [], harness := (true, "e11c83f183eb16faf10536b39d5c643eb8ec6c43c10154af9364a23056137665"), looks := false }, kinds := [], alts := [], laidByText := true, laidKinds := [.data, .pinned], laidTests := true, laidLooks := .later }
def FnExactTakeApartCardSaid : Prop := Claim7.holds Tryd.pinned (.plain (OpenSpec.ofChange fnExactTakeApartSpec)) fnExactTakeApartCard

/-- THE TIED CARD OF 'laws.FnExactTranslateGeneric'. -/
def fnExactTranslateGenericCard : Claim7 := { stood := { row := fnExactTranslateGenericRow, standIns := [], harness := (true, "e11c83f183eb16faf10536b39d5c643eb8ec6c43c10154af9364a23056137665"), looks := false }, kinds := [], alts := [], laidByText := true, laidKinds := [.data, .pinned], laidTests := true, laidLooks := .later }
def FnExactTranslateGenericCardSaid : Prop := Claim7.holds Tryd.pinned (.plain (OpenSpec.ofChange fnExactTranslateGenericSpec)) fnExactTranslateGenericCard

/-- THE TIED CARD OF 'laws.FnParts'. -/
def fnPartsCard : Claim7 := { stood := { row := fnPartsRow, standIns := [], harness := (true, "e11c83f183eb16faf10536b39d5c643eb8ec6c43c10154af9364a23056137665"), looks := false }, kinds := [], alts := [], laidByText := true, laidKinds := [.data, .pinned], laidTests := true, laidLooks := .later }
def FnPartsCardSaid : Prop := Claim7.holds Tryd.pinned (.plain (OpenSpec.ofChange fnPartsSpec)) fnPartsCard

/-- THE TIED CARD OF 'laws.FnExactBasesOf'. -/
def fnExactBasesOfCard : Claim7 := { stood := { row := fnExactBasesOfRow, standIns := [], harness := (true, "e11c83f183eb16faf10536b39d5c643eb8ec6c43c10154af9364a23056137665"), looks := false }, kinds := [], alts := [], laidByText := true, laidKinds := [.data, .pinned], laidTests := true, laidLooks := .later }
def FnExactBasesOfCardSaid : Prop := Claim7.holds Tryd.pinned (.plain (OpenSpec.ofChange fnExactBasesOfSpec)) fnExactBasesOfCard

/-- THE TIED CARD OF 'laws.FnExactFormsOf'. -/
def fnExactFormsOfCard : Claim7 := { stood := { row := fnExactFormsOfRow, standIns := [], harness := (true, "e11c83f183eb16faf10536b39d5c643eb8ec6c43c10154af9364a23056137665"), looks := false }, kinds := [], alts := [], laidByText := true, laidKinds := [.data, .pinned], laidTests := true, laidLooks := .later }
def FnExactFormsOfCardSaid : Prop := Claim7.holds Tryd.pinned (.plain (OpenSpec.ofChange fnExactFormsOfSpec)) fnExactFormsOfCard

/-- THE TIED CARD OF 'laws.FnExactCasesOf'. -/
def fnExactCasesOfCard : Claim7 := { stood := { row := fnExactCasesOfRow, standIns := [], harness := (true, "e11c83f183eb16faf10536b39d5c643eb8ec6c43c10154af9364a23056137665"), looks := false }, kinds := [], alts := [], laidByText := true, laidKinds := [.data, .pinned], laidTests := true, laidLooks := .later }
def FnExactCasesOfCardSaid : Prop := Claim7.holds Tryd.pinned (.plain (OpenSpec.ofChange fnExactCasesOfSpec)) fnExactCasesOfCard

/-- THE SECOND FORM's CARD OF 'laws.FnExactAreGenerics'. -/
def fnExactAreGenericsUptoCard : Claim7 := { stood := { row := fnExactAreGenericsUptoRow, standIns := [], harness := (true, "e11c83f183eb16faf10536b39d5c643eb8ec6c43c10154af9364a23056137665"), looks := false }, kinds := [], alts := [], laidByText := true, laidKinds := [.data, .pinned], laidTests := true, laidLooks := .later }
def FnExactAreGenericsUptoCardSaid : Prop := Claim7.holds Tryd.pinned (.plain (OpenSpec.upto fnExactAreGenericsSpec)) fnExactAreGenericsUptoCard

/-- THE SECOND FORM's CARD OF 'laws.FnExactIsEndingTable'. -/
def fnExactIsEndingTableUptoCard : Claim7 := { stood := { row := fnExactIsEndingTableUptoRow, standIns := [], harness := (true, "e11c83f183eb16faf10536b39d5c643eb8ec6c43c10154af9364a23056137665"), looks := false }, kinds := [], alts := [], laidByText := true, laidKinds := [.data, .pinned], laidTests := true, laidLooks := .later }
def FnExactIsEndingTableUptoCardSaid : Prop := Claim7.holds Tryd.pinned (.plain (OpenSpec.upto fnExactIsEndingTableSpec)) fnExactIsEndingTableUptoCard

/-- THE SECOND FORM's CARD OF 'laws.FnExactPutTogether'. -/
def fnExactPutTogetherUptoCard : Claim7 := { stood := { row := fnExactPutTogetherUptoRow, standIns := [], harness := (true, "e11c83f183eb16faf10536b39d5c643eb8ec6c43c10154af9364a23056137665"), looks := false }, kinds := [], alts := [], laidByText := true, laidKinds := [.data, .pinned], laidTests := true, laidLooks := .later }
def FnExactPutTogetherUptoCardSaid : Prop := Claim7.holds Tryd.pinned (.plain (OpenSpec.upto fnExactPutTogetherSpec)) fnExactPutTogetherUptoCard

/-- THE SECOND FORM's CARD OF 'laws.FnExactTakeApart'. -/
def fnExactTakeApartUptoCard : Claim7 := { stood := { row := fnExactTakeApartUptoRow, standIns := [], harness := (true, "e11c83f183eb16faf10536b39d5c643eb8ec6c43c10154af9364a23056137665"), looks := false }, kinds := [], alts := [], laidByText := true, laidKinds := [.data, .pinned], laidTests := true, laidLooks := .later }
def FnExactTakeApartUptoCardSaid : Prop := Claim7.holds Tryd.pinned (.plain (OpenSpec.upto fnExactTakeApartSpec)) fnExactTakeApartUptoCard

/-- THE SECOND FORM's CARD OF 'laws.FnExactTranslateGeneric'. -/
def fnExactTranslateGenericUptoCard : Claim7 := { stood := { row := fnExactTranslateGenericUptoRow, standIns := [], harness := (true, "e11c83f183eb16faf10536b39d5c643eb8ec6c43c10154af9364a23056137665"), looks := false }, kinds := [], alts := [], laidByText := true, laidKinds := [.data, .pinned], laidTests := true, laidLooks := .later }
def FnExactTranslateGenericUptoCardSaid : Prop := Claim7.holds Tryd.pinned (.plain (OpenSpec.upto fnExactTranslateGenericSpec)) fnExactTranslateGenericUptoCard

/-- THE SECOND FORM's CARD OF 'laws.FnParts'. -/
def fnPartsUptoCard : Claim7 := { stood := { row := fnPartsUptoRow, standIns := [], harness := (true, "e11c83f183eb16faf10536b39d5c643eb8ec6c43c10154af9364a23056137665"), looks := false }, kinds := [], alts := [], laidByText := true, laidKinds := [.data, .pinned], laidTests := true, laidLooks := .later }
def FnPartsUptoCardSaid : Prop := Claim7.holds Tryd.pinned (.plain (OpenSpec.upto fnPartsSpec)) fnPartsUptoCard

/-- THE SECOND FORM's CARD OF 'laws.FnExactBasesOf'. -/
def fnExactBasesOfUptoCard : Claim7 := { stood := { row := fnExactBasesOfUptoRow, standIns := [], harness := (true, "e11c83f183eb16faf10536b39d5c643eb8ec6c43c10154af9364a23056137665"), looks := false }, kinds := [], alts := [], laidByText := true, laidKinds := [.data, .pinned], laidTests := true, laidLooks := .later }
def FnExactBasesOfUptoCardSaid : Prop := Claim7.holds Tryd.pinned (.plain (OpenSpec.upto fnExactBasesOfSpec)) fnExactBasesOfUptoCard

/-- THE SECOND FORM's CARD OF 'laws.FnExactFormsOf'. -/
def fnExactFormsOfUptoCard : Claim7 := { stood := { row := fnExactFormsOfUptoRow, standIns := [], harness := (true, "e11c83f183eb16faf10536b39d5c643eb8ec6c43c10154af9364a23056137665"), looks := false }, kinds := [], alts := [], laidByText := true, laidKinds := [.data, .pinned], laidTests := true, laidLooks := .later }
def FnExactFormsOfUptoCardSaid : Prop := Claim7.holds Tryd.pinned (.plain (OpenSpec.upto fnExactFormsOfSpec)) fnExactFormsOfUptoCard

/-- THE SECOND FORM's CARD OF 'laws.FnExactCasesOf'. -/
def fnExactCasesOfUptoCard : Claim7 := { stood := { row := fnExactCasesOfUptoRow, standIns := [], harness := (true, "e11c83f183eb16faf10536b39d5c643eb8ec6c43c10154af9364a23056137665"), looks := false }, kinds := [], alts := [], laidByText := true, laidKinds := [.data, .pinned], laidTests := true, laidLooks := .later }
def FnExactCasesOfUptoCardSaid : Prop := Claim7.holds Tryd.pinned (.plain (OpenSpec.upto fnExactCasesOfSpec)) fnExactCasesOfUptoCard
end Rows
end Go.Proofs.YtmnnpjolicnjiaaDoor
