/-
  DERIVED. GIVEN WITH THE SEED: THE CARDS: each row of YtcppnaopegendaaDoorRows.lean that lists a variable, with what it lists TIED to the program's text (the seventh form; the later family's looks); each row that meets fmt, with fmt's text TOLD by the authors' own Lean function (tested against real Go, not proved from fmt's source: count such statements apart). THE CARD IS WHAT COUNTS. Prove the row's statement (the work); the ties are given (YtcppnaopegendaaDoorTie.lean); close each card by the builder's one call (the guide's Derived/Test/ToyasCard.lean, 'card_holds'). Laid BY PROGRAM, IN A SANDBOX (cutbox-door.mjs). By AI agents, Wed Nov 11 2026. No macro, syntax, notation, axiom, sorry.
-/
import Derived.Test.YtcppnaopegendaaDoorRows
import GoSem.ClaimSeven
namespace Go.Proofs.YtcppnaopegendaaDoor
namespace Rows

/-- THE TIED CARD OF 'laws.FnExactBasesOf'. -/
def fnExactBasesOfCard : Claim7 := { stood := { row := fnExactBasesOfRow, standIns := [], harness := (true, "0d251e21bdc925e664729cac6c1f94b67ee68ecf2dfddf062b6b699ea6c6619e"), looks := false }, kinds := [], alts := [], laidByText := true, laidKinds := [.data, .pinned], laidTests := true, laidLooks := .later }
def FnExactBasesOfCardSaid : Prop := Claim7.holds Tryd.pinned (.plain (OpenSpec.ofChange fnExactBasesOfSpec)) fnExactBasesOfCard

/-- THE TIED CARD OF 'laws.FnExactFormsOf'. -/
def fnExactFormsOfCard : Claim7 := { stood := { row := fnExactFormsOfRow, standIns := [], harness := (true, "0d251e21bdc925e664729cac6c1f94b67ee68ecf2dfddf062b6b699ea6c6619e"), looks := false }, kinds := [], alts := [], laidByText := true, laidKinds := [.data, .pinned], laidTests := true, laidLooks := .later }
def FnExactFormsOfCardSaid : Prop := Claim7.holds Tryd.pinned (.plain (OpenSpec.ofChange fnExactFormsOfSpec)) fnExactFormsOfCard

/-- THE TIED CARD OF 'laws.FnExactCasesOf'. -/
def fnExactCasesOfCard : Claim7 := { stood := { row := fnExactCasesOfRow, standIns := [], harness := (true, "0d251e21bdc925e664729cac6c1f94b67ee68ecf2dfddf062b6b699ea6c6619e"), looks := false }, kinds := [], alts := [], laidByText := true, laidKinds := [.data, .pinned], laidTests := true, laidLooks := .later }
def FnExactCasesOfCardSaid : Prop := Claim7.holds Tryd.pinned (.plain (OpenSpec.ofChange fnExactCasesOfSpec)) fnExactCasesOfCard

/-- THE TIED CARD OF 'laws.FnParts'. -/
def fnPartsCard : Claim7 := { stood := { row := fnPartsRow, standIns := [], harness := (true, "0d251e21bdc925e664729cac6c1f94b67ee68ecf2dfddf062b6b699ea6c6619e"), looks := false }, kinds := [], alts := [], laidByText := true, laidKinds := [.data, .pinned], laidTests := true, laidLooks := .later }
def FnPartsCardSaid : Prop := Claim7.holds Tryd.pinned (.plain (OpenSpec.ofChange fnPartsSpec)) fnPartsCard

/-- THE SECOND FORM's CARD OF 'laws.FnExactBasesOf'. -/
def fnExactBasesOfUptoCard : Claim7 := { stood := { row := fnExactBasesOfUptoRow, standIns := [], harness := (true, "0d251e21bdc925e664729cac6c1f94b67ee68ecf2dfddf062b6b699ea6c6619e"), looks := false }, kinds := [], alts := [], laidByText := true, laidKinds := [.data, .pinned], laidTests := true, laidLooks := .later }
def FnExactBasesOfUptoCardSaid : Prop := Claim7.holds Tryd.pinned (.plain (OpenSpec.upto fnExactBasesOfSpec)) fnExactBasesOfUptoCard

/-- THE SECOND FORM's CARD OF 'laws.FnExactFormsOf'. -/
def fnExactFormsOfUptoCard : Claim7 := { stood := { row := fnExactFormsOfUptoRow, standIns := [], harness := (true, "0d251e21bdc925e664729cac6c1f94b67ee68ecf2dfddf062b6b699ea6c6619e"), looks := false }, kinds := [], alts := [], laidByText := true, laidKinds := [.data, .pinned], laidTests := true, laidLooks := .later }
def FnExactFormsOfUptoCardSaid : Prop := Claim7.holds Tryd.pinned (.plain (OpenSpec.upto fnExactFormsOfSpec)) fnExactFormsOfUptoCard

/-- THE SECOND FORM's CARD OF 'laws.FnExactCasesOf'. -/
def fnExactCasesOfUptoCard : Claim7 := { stood := { row := fnExactCasesOfUptoRow, standIns := [], harness := (true, "0d251e21bdc925e664729cac6c1f94b67ee68ecf2dfddf062b6b699ea6c6619e"), looks := false }, kinds := [], alts := [], laidByText := true, laidKinds := [.data, .pinned], laidTests := true, laidLooks := .later }
def FnExactCasesOfUptoCardSaid : Prop := Claim7.holds Tryd.pinned (.plain (OpenSpec.upto fnExactCasesOfSpec)) fnExactCasesOfUptoCard

/-- THE SECOND FORM's CARD OF 'laws.FnParts'. -/
def fnPartsUptoCard : Claim7 := { stood := { row := fnPartsUptoRow, standIns := [], harness := (true, "0d251e21bdc925e664729cac6c1f94b67ee68ecf2dfddf062b6b699ea6c6619e"), looks := false }, kinds := [], alts := [], laidByText := true, laidKinds := [.data, .pinned], laidTests := true, laidLooks := .later }
def FnPartsUptoCardSaid : Prop := Claim7.holds Tryd.pinned (.plain (OpenSpec.upto fnPartsSpec)) fnPartsUptoCard
end Rows
end Go.Proofs.YtcppnaopegendaaDoor
