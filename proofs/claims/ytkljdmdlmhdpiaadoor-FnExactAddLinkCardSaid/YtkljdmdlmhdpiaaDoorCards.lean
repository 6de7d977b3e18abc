/-
  DERIVED. GIVEN WITH THE SEED: THE CARDS: each row of YtkljdmdlmhdpiaaDoorRows.lean that lists a variable, with what it lists TIED to the program's text (the seventh form; the later family's looks); each row that meets fmt, with fmt's text TOLD by the authors' own Lean function (tested against real Go, not proved from fmt's source: count such statements apart). THE CARD IS WHAT COUNTS. Prove the row's statement (the work); the ties are given (YtkljdmdlmhdpiaaDoorTie.lean); close each card by the builder's one call (the guide's Derived/Test/ToyasCard.lean, 'card_holds'). Laid BY PROGRAM, IN A SANDBOX (cutbox-door.mjs). By AI agents, Wed Nov 11 2026. No macro, syntax, notation, axiom, sorry.
-/
import Derived.Test.YtkljdmdlmhdpiaaDoorRows
import GoSem.ClaimSeven
namespace Go.Proofs.YtkljdmdlmhdpiaaDoor
namespace Rows

/-- THE TIED CARD OF 'laws.FnExactAddLink'. -/
def fnExactAddLinkCard : Claim7 := { stood := { row := fnExactAddLinkRow, standIns := [], harness := (true, "f4111c5d03b8ce78db1f24e163b229c9900b16c6cbafe82afec63abbf36e5bf9"), looks := false }, kinds := [], alts := [], laidByText := true, laidKinds := [.data, .pinned], laidTests := true, laidLooks := .later }
def FnExactAddLinkCardSaid : Prop := Claim7.holds Tryd.pinned (.plain (OpenSpec.ofChange fnExactAddLinkSpec)) fnExactAddLinkCard

/-- THE TIED CARD OF 'laws.FnExactRootsIn'. -/
def fnExactRootsInCard : Claim7 := { stood := { row := fnExactRootsInRow, standIns := [], harness := (true, "f4111c5d03b8ce78db1f24e163b229c9900b16c6cbafe82afec63abbf36e5bf9"), looks := false }, kinds := [], alts := [], laidByText := true, laidKinds := [.data, .pinned], laidTests := true, laidLooks := .later }
def FnExactRootsInCardSaid : Prop := Claim7.holds Tryd.pinned (.plain (OpenSpec.ofChange fnExactRootsInSpec)) fnExactRootsInCard

/-- THE SECOND FORM's CARD OF 'laws.FnExactAddLink'. -/
def fnExactAddLinkUptoCard : Claim7 := { stood := { row := fnExactAddLinkUptoRow, standIns := [], harness := (true, "f4111c5d03b8ce78db1f24e163b229c9900b16c6cbafe82afec63abbf36e5bf9"), looks := false }, kinds := [], alts := [], laidByText := true, laidKinds := [.data, .pinned], laidTests := true, laidLooks := .later }
def FnExactAddLinkUptoCardSaid : Prop := Claim7.holds Tryd.pinned (.plain (OpenSpec.upto fnExactAddLinkSpec)) fnExactAddLinkUptoCard

/-- THE SECOND FORM's CARD OF 'laws.FnExactRootsIn'. -/
def fnExactRootsInUptoCard : Claim7 := { stood := { row := fnExactRootsInUptoRow, standIns := [], harness := (true, "f4111c5d03b8ce78db1f24e163b229c9900b16c6cbafe82afec63abbf36e5bf9"), looks := false }, kinds := [], alts := [], laidByText := true, laidKinds := [.data, .pinned], laidTests := true, laidLooks := .later }
def FnExactRootsInUptoCardSaid : Prop := Claim7.holds Tryd.pinned (.plain (OpenSpec.upto fnExactRootsInSpec)) fnExactRootsInUptoCard
end Rows
end Go.Proofs.YtkljdmdlmhdpiaaDoor
