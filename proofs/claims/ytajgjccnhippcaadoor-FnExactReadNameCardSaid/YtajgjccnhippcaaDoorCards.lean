/-
  DERIVED. GIVEN WITH THE SEED: THE CARDS: each row of YtajgjccnhippcaaDoorRows.lean that lists a variable, with what it lists TIED to the program's text (the seventh form; the later family's looks); each row that meets fmt, with fmt's text TOLD by the authors' own Lean function (tested against real Go, not proved from fmt's source: count such statements apart). THE CARD IS WHAT COUNTS. Prove the row's statement (the work); the ties are given (YtajgjccnhippcaaDoorTie.lean); close each card by the builder's one call (the guide's Derived/Test/ToyasCard.lean, 'card_holds'). Laid BY PROGRAM, IN A SANDBOX (cutbox-door.mjs). By AI agents, Wed Nov 11 2026. No macro, syntax, notation, axiom, sorry.
-/
import Derived.Test.YtajgjccnhippcaaDoorRows
import GoSem.ClaimSeven
namespace Go.Proofs.YtajgjccnhippcaaDoor
namespace Rows

/-- THE TIED CARD OF 'laws.FnExactRenameIn'. -/
def fnExactRenameInCard : Claim7 := { stood := { row := fnExactRenameInRow, standIns := [], harness := (true, "005e5d866be64b5e5a5cccd1d9a3f3f8c9848e53c34cfa3264e263f2efd75f02"), looks := true }, kinds := [], alts := [], laidByText := true, laidKinds := [.data, .pinned], laidTests := true, laidLooks := .later }
def FnExactRenameInCardSaid : Prop := Claim7.holds Tryd.pinned (.plain (OpenSpec.ofChange fnExactRenameInSpec)) fnExactRenameInCard

/-- THE TIED CARD OF 'laws.FnExactNameText'. -/
def fnExactNameTextCard : Claim7 := { stood := { row := fnExactNameTextRow, standIns := [], harness := (true, "005e5d866be64b5e5a5cccd1d9a3f3f8c9848e53c34cfa3264e263f2efd75f02"), looks := true }, kinds := [], alts := [], laidByText := true, laidKinds := [.data, .data, .data, .data, .pinned], laidTests := true, laidLooks := .later }
def FnExactNameTextCardSaid : Prop := Claim7.holds Tryd.pinned (.plain (OpenSpec.ofChange fnExactNameTextSpec)) fnExactNameTextCard

/-- THE TIED CARD OF 'laws.FnExactReadName'. -/
def fnExactReadNameCard : Claim7 := { stood := { row := fnExactReadNameRow, standIns := [], harness := (true, "005e5d866be64b5e5a5cccd1d9a3f3f8c9848e53c34cfa3264e263f2efd75f02"), looks := true }, kinds := [], alts := [], laidByText := true, laidKinds := [.data, .data, .data, .data, .sentinel, .sentinel, .pinned], laidTests := true, laidLooks := .later }
def FnExactReadNameCardSaid : Prop := Claim7.holds Tryd.pinned (.plain (OpenSpec.ofChange fnExactReadNameSpec)) fnExactReadNameCard

/-- THE SECOND FORM's CARD OF 'laws.FnExactRenameIn'. -/
def fnExactRenameInUptoCard : Claim7 := { stood := { row := fnExactRenameInUptoRow, standIns := [], harness := (true, "005e5d866be64b5e5a5cccd1d9a3f3f8c9848e53c34cfa3264e263f2efd75f02"), looks := true }, kinds := [], alts := [], laidByText := true, laidKinds := [.data, .pinned], laidTests := true, laidLooks := .later }
def FnExactRenameInUptoCardSaid : Prop := Claim7.holds Tryd.pinned (.plain (OpenSpec.upto fnExactRenameInSpec)) fnExactRenameInUptoCard

/-- THE SECOND FORM's CARD OF 'laws.FnExactNameText'. -/
def fnExactNameTextUptoCard : Claim7 := { stood := { row := fnExactNameTextUptoRow, standIns := [], harness := (true, "005e5d866be64b5e5a5cccd1d9a3f3f8c9848e53c34cfa3264e263f2efd75f02"), looks := true }, kinds := [], alts := [], laidByText := true, laidKinds := [.data, .data, .data, .data, .pinned], laidTests := true, laidLooks := .later }
def FnExactNameTextUptoCardSaid : Prop := Claim7.holds Tryd.pinned (.plain (OpenSpec.upto fnExactNameTextSpec)) fnExactNameTextUptoCard

/-- THE SECOND FORM's CARD OF 'laws.FnExactReadName'. -/
def fnExactReadNameUptoCard : Claim7 := { stood := { row := fnExactReadNameUptoRow, standIns := [], harness := (true, "005e5d866be64b5e5a5cccd1d9a3f3f8c9848e53c34cfa3264e263f2efd75f02"), looks := true }, kinds := [], alts := [], laidByText := true, laidKinds := [.data, .data, .data, .data, .sentinel, .sentinel, .pinned], laidTests := true, laidLooks := .later }
def FnExactReadNameUptoCardSaid : Prop := Claim7.holds Tryd.pinned (.plain (OpenSpec.upto fnExactReadNameSpec)) fnExactReadNameUptoCard
end Rows
end Go.Proofs.YtajgjccnhippcaaDoor
