/-
  DERIVED. GIVEN WITH THE SEED: THE CARDS: each row of YtmphikmnepmnlaaDoorRows.lean that lists a variable, with what it lists TIED to the program's text (the seventh form; the later family's looks); each row that meets fmt, with fmt's text TOLD by the authors' own Lean function (tested against real Go, not proved from fmt's source: count such statements apart). THE CARD IS WHAT COUNTS. Prove the row's statement (the work); the ties are given (YtmphikmnepmnlaaDoorTie.lean); close each card by the builder's one call (the guide's Derived/Test/ToyasCard.lean, 'card_holds'). Laid BY PROGRAM, IN A SANDBOX (cutbox-door.mjs). By AI agents, Wed Nov 11 2026. No macro, syntax, notation, axiom, sorry.
-/
import Derived.Test.YtmphikmnepmnlaaDoorRows
import GoSem.ClaimSeven
namespace Go.Proofs.YtmphikmnepmnlaaDoor
namespace Rows

/-- THE TIED CARD OF 'laws.FnExactBestIn'. -/
def fnExactBestInCard : Claim7 := { stood := { row := fnExactBestInRow, standIns := [], harness := (true, "f94c0c99abad52063cb5981d5cd7e6b8f6e5ac7e13ca8bf2bae54155217ebdbb"), looks := true }, kinds := [], alts := [], laidByText := true, laidKinds := [.data, .pinned], laidTests := true, laidLooks := .later }
def FnExactBestInCardSaid : Prop := Claim7.holds Tryd.pinned (.plain (OpenSpec.ofChange fnExactBestInSpec)) fnExactBestInCard

/-- THE TIED CARD OF 'laws.FnExactRenameIn'. -/
def fnExactRenameInCard : Claim7 := { stood := { row := fnExactRenameInRow, standIns := [], harness := (true, "f94c0c99abad52063cb5981d5cd7e6b8f6e5ac7e13ca8bf2bae54155217ebdbb"), looks := true }, kinds := [], alts := [], laidByText := true, laidKinds := [.data, .pinned], laidTests := true, laidLooks := .later }
def FnExactRenameInCardSaid : Prop := Claim7.holds Tryd.pinned (.plain (OpenSpec.ofChange fnExactRenameInSpec)) fnExactRenameInCard

/-- THE TIED CARD OF 'laws.FnExactNameText'. -/
def fnExactNameTextCard : Claim7 := { stood := { row := fnExactNameTextRow, standIns := [], harness := (true, "f94c0c99abad52063cb5981d5cd7e6b8f6e5ac7e13ca8bf2bae54155217ebdbb"), looks := true }, kinds := [], alts := [], laidByText := true, laidKinds := [.data, .data, .data, .data, .pinned], laidTests := true, laidLooks := .later }
def FnExactNameTextCardSaid : Prop := Claim7.holds Tryd.pinned (.plain (OpenSpec.ofChange fnExactNameTextSpec)) fnExactNameTextCard

/-- THE TIED CARD OF 'laws.FnExactReadName'. -/
def fnExactReadNameCard : Claim7 := { stood := { row := fnExactReadNameRow, standIns := [], harness := (true, "f94c0c99abad52063cb5981d5cd7e6b8f6e5ac7e13ca8bf2bae54155217ebdbb"), looks := true }, kinds := [], alts := [], laidByText := true, laidKinds := [.data, .data, .data, .data, .sentinel, .sentinel, .pinned], laidTests := true, laidLooks := .later }
def FnExactReadNameCardSaid : Prop := Claim7.holds Tryd.pinned (.plain (OpenSpec.ofChange fnExactReadNameSpec)) fnExactReadNameCard

/-- THE TIED CARD OF 'laws.FnExactLanguagesOf'. -/
def fnExactLanguagesOfCard : Claim7 := { stood := { row := fnExactLanguagesOfRow, standIns := [], harness := (true, "f94c0c99abad52063cb5981d5cd7e6b8f6e5ac7e13ca8bf2bae54155217ebdbb"), looks := true }, kinds := [], alts := [], laidByText := true, laidKinds := [.data, .pinned], laidTests := true, laidLooks := .later }
def FnExactLanguagesOfCardSaid : Prop := Claim7.holds Tryd.pinned (.plain (OpenSpec.ofChange fnExactLanguagesOfSpec)) fnExactLanguagesOfCard

/-- THE SECOND FORM's CARD OF 'laws.FnExactBestIn'. -/
def fnExactBestInUptoCard : Claim7 := { stood := { row := fnExactBestInUptoRow, standIns := [], harness := (true, "f94c0c99abad52063cb5981d5cd7e6b8f6e5ac7e13ca8bf2bae54155217ebdbb"), looks := true }, kinds := [], alts := [], laidByText := true, laidKinds := [.data, .pinned], laidTests := true, laidLooks := .later }
def FnExactBestInUptoCardSaid : Prop := Claim7.holds Tryd.pinned (.plain (OpenSpec.upto fnExactBestInSpec)) fnExactBestInUptoCard

/-- THE SECOND FORM's CARD OF 'laws.FnExactRenameIn'. -/
def fnExactRenameInUptoCard : Claim7 := { stood := { row := fnExactRenameInUptoRow, standIns := [], harness := (true, "f94c0c99abad52063cb5981d5cd7e6b8f6e5ac7e13ca8bf2bae54155217ebdbb"), looks := true }, kinds := [], alts := [], laidByText := true, laidKinds := [.data, .pinned], laidTests := true, laidLooks := .later }
def FnExactRenameInUptoCardSaid : Prop := Claim7.holds Tryd.pinned (.plain (OpenSpec.upto fnExactRenameInSpec)) fnExactRenameInUptoCard

/-- THE SECOND FORM's CARD OF 'laws.FnExactNameText'. -/
def fnExactNameTextUptoCard : Claim7 := { stood := { row := fnExactNameTextUptoRow, standIns := [], harness := (true, "f94c0c99abad52063cb5981d5cd7e6b8f6e5ac7e13ca8bf2bae54155217ebdbb"), looks := true }, kinds := [], alts := [], laidByText := true, laidKinds := [.data, .data, .data, .data, .pinned], laidTests := true, laidLooks := .later }
def FnExactNameTextUptoCardSaid : Prop := Claim7.holds Tryd.pinned (.plain (OpenSpec.upto fnExactNameTextSpec)) fnExactNameTextUptoCard

/-- THE SECOND FORM's CARD OF 'laws.FnExactReadName'. -/
def fnExactReadNameUptoCard : Claim7 := { stood := { row := fnExactReadNameUptoRow, standIns := [], harness := (true, "f94c0c99abad52063cb5981d5cd7e6b8f6e5ac7e13ca8bf2bae54155217ebdbb"), looks := true }, kinds := [], alts := [], laidByText := true, laidKinds := [.data, .data, .data, .data, .sentinel, .sentinel, .pinned], laidTests := true, laidLooks := .later }
def FnExactReadNameUptoCardSaid : Prop := Claim7.holds Tryd.pinned (.plain (OpenSpec.upto fnExactReadNameSpec)) fnExactReadNameUptoCard

/-- THE SECOND FORM's CARD OF 'laws.FnExactLanguagesOf'. -/
def fnExactLanguagesOfUptoCard : Claim7 := { stood := { row := fnExactLanguagesOfUptoRow, standIns := [], harness := (true, "f94c0c99abad52063cb5981d5cd7e6b8f6e5ac7e13ca8bf2bae54155217ebdbb"), looks := true }, kinds := [], alts := [], laidByText := true, laidKinds := [.data, .pinned], laidTests := true, laidLooks := .later }
def FnExactLanguagesOfUptoCardSaid : Prop := Claim7.holds Tryd.pinned (.plain (OpenSpec.upto fnExactLanguagesOfSpec)) fnExactLanguagesOfUptoCard
end Rows
end Go.Proofs.YtmphikmnepmnlaaDoor
