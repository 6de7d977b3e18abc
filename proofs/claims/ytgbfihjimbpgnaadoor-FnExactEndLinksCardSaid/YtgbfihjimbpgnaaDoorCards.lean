/-
  DERIVED. GIVEN WITH THE SEED: THE CARDS: each row of YtgbfihjimbpgnaaDoorRows.lean that lists a variable, with what it lists TIED to the program's text (the seventh form; the later family's looks); each row that meets fmt, with fmt's text TOLD by the authors' own Lean function (tested against real Go, not proved from fmt's source: count such statements apart). THE CARD IS WHAT COUNTS. Prove the row's statement (the work); the ties are given (YtgbfihjimbpgnaaDoorTie.lean); close each card by the builder's one call (the guide's Derived/Test/ToyasCard.lean, 'card_holds'). Laid BY PROGRAM, IN A SANDBOX (cutbox-door.mjs). By AI agents, Wed Nov 11 2026. No macro, syntax, notation, axiom, sorry.
-/
import Derived.Test.YtgbfihjimbpgnaaDoorRows
import GoSem.ClaimSeven
namespace Go.Proofs.YtgbfihjimbpgnaaDoor
namespace Rows

/-- THE TIED CARD OF 'laws.FnExactAreLinks'. -/
def fnExactAreLinksCard : Claim7 := { stood := { row := fnExactAreLinksRow, standIns := [], harness := (true, "f0089a84b460f6386c905b242e4d56bdff559f359f78b0eb56da64fe20e2c993"), looks := false }, kinds := [], alts := [], laidByText := true, laidKinds := [.data, .pinned], laidTests := true, laidLooks := .later }
def FnExactAreLinksCardSaid : Prop := Claim7.holds Tryd.pinned (.plain (OpenSpec.ofChange fnExactAreLinksSpec)) fnExactAreLinksCard

/-- THE TIED CARD OF 'laws.FnExactParentIn'. -/
def fnExactParentInCard : Claim7 := { stood := { row := fnExactParentInRow, standIns := [], harness := (true, "f0089a84b460f6386c905b242e4d56bdff559f359f78b0eb56da64fe20e2c993"), looks := false }, kinds := [], alts := [], laidByText := true, laidKinds := [.data, .pinned], laidTests := true, laidLooks := .later }
def FnExactParentInCardSaid : Prop := Claim7.holds Tryd.pinned (.plain (OpenSpec.ofChange fnExactParentInSpec)) fnExactParentInCard

/-- THE TIED CARD OF 'laws.FnExactMeetingIn'. -/
def fnExactMeetingInCard : Claim7 := { stood := { row := fnExactMeetingInRow, standIns := [], harness := (true, "f0089a84b460f6386c905b242e4d56bdff559f359f78b0eb56da64fe20e2c993"), looks := false }, kinds := [], alts := [], laidByText := true, laidKinds := [.data, .pinned], laidTests := true, laidLooks := .later }
def FnExactMeetingInCardSaid : Prop := Claim7.holds Tryd.pinned (.plain (OpenSpec.ofChange fnExactMeetingInSpec)) fnExactMeetingInCard

/-- THE TIED CARD OF 'laws.FnExactAddLink'. -/
def fnExactAddLinkCard : Claim7 := { stood := { row := fnExactAddLinkRow, standIns := [], harness := (true, "f0089a84b460f6386c905b242e4d56bdff559f359f78b0eb56da64fe20e2c993"), looks := false }, kinds := [], alts := [], laidByText := true, laidKinds := [.data, .pinned], laidTests := true, laidLooks := .later }
def FnExactAddLinkCardSaid : Prop := Claim7.holds Tryd.pinned (.plain (OpenSpec.ofChange fnExactAddLinkSpec)) fnExactAddLinkCard

/-- THE TIED CARD OF 'laws.FnExactWayUp'. -/
def fnExactWayUpCard : Claim7 := { stood := { row := fnExactWayUpRow, standIns := [], harness := (true, "f0089a84b460f6386c905b242e4d56bdff559f359f78b0eb56da64fe20e2c993"), looks := false }, kinds := [], alts := [], laidByText := true, laidKinds := [.data, .pinned], laidTests := true, laidLooks := .later }
def FnExactWayUpCardSaid : Prop := Claim7.holds Tryd.pinned (.plain (OpenSpec.ofChange fnExactWayUpSpec)) fnExactWayUpCard

/-- THE TIED CARD OF 'laws.FnExactEndLinks'. -/
def fnExactEndLinksCard : Claim7 := { stood := { row := fnExactEndLinksRow, standIns := [], harness := (true, "f0089a84b460f6386c905b242e4d56bdff559f359f78b0eb56da64fe20e2c993"), looks := false }, kinds := [], alts := [], laidByText := true, laidKinds := [.data, .pinned], laidTests := true, laidLooks := .later }
def FnExactEndLinksCardSaid : Prop := Claim7.holds Tryd.pinned (.plain (OpenSpec.ofChange fnExactEndLinksSpec)) fnExactEndLinksCard

/-- THE TIED CARD OF 'laws.FnExactRootsIn'. -/
def fnExactRootsInCard : Claim7 := { stood := { row := fnExactRootsInRow, standIns := [], harness := (true, "f0089a84b460f6386c905b242e4d56bdff559f359f78b0eb56da64fe20e2c993"), looks := false }, kinds := [], alts := [], laidByText := true, laidKinds := [.data, .pinned], laidTests := true, laidLooks := .later }
def FnExactRootsInCardSaid : Prop := Claim7.holds Tryd.pinned (.plain (OpenSpec.ofChange fnExactRootsInSpec)) fnExactRootsInCard

/-- THE SECOND FORM's CARD OF 'laws.FnExactAreLinks'. -/
def fnExactAreLinksUptoCard : Claim7 := { stood := { row := fnExactAreLinksUptoRow, standIns := [], harness := (true, "f0089a84b460f6386c905b242e4d56bdff559f359f78b0eb56da64fe20e2c993"), looks := false }, kinds := [], alts := [], laidByText := true, laidKinds := [.data, .pinned], laidTests := true, laidLooks := .later }
def FnExactAreLinksUptoCardSaid : Prop := Claim7.holds Tryd.pinned (.plain (OpenSpec.upto fnExactAreLinksSpec)) fnExactAreLinksUptoCard

/-- THE SECOND FORM's CARD OF 'laws.FnExactParentIn'. -/
def fnExactParentInUptoCard : Claim7 := { stood := { row := fnExactParentInUptoRow, standIns := [], harness := (true, "f0089a84b460f6386c905b242e4d56bdff559f359f78b0eb56da64fe20e2c993"), looks := false }, kinds := [], alts := [], laidByText := true, laidKinds := [.data, .pinned], laidTests := true, laidLooks := .later }
def FnExactParentInUptoCardSaid : Prop := Claim7.holds Tryd.pinned (.plain (OpenSpec.upto fnExactParentInSpec)) fnExactParentInUptoCard

/-- THE SECOND FORM's CARD OF 'laws.FnExactMeetingIn'. -/
def fnExactMeetingInUptoCard : Claim7 := { stood := { row := fnExactMeetingInUptoRow, standIns := [], harness := (true, "f0089a84b460f6386c905b242e4d56bdff559f359f78b0eb56da64fe20e2c993"), looks := false }, kinds := [], alts := [], laidByText := true, laidKinds := [.data, .pinned], laidTests := true, laidLooks := .later }
def FnExactMeetingInUptoCardSaid : Prop := Claim7.holds Tryd.pinned (.plain (OpenSpec.upto fnExactMeetingInSpec)) fnExactMeetingInUptoCard

/-- THE SECOND FORM's CARD OF 'laws.FnExactAddLink'. -/
def fnExactAddLinkUptoCard : Claim7 := { stood := { row := fnExactAddLinkUptoRow, standIns := [], harness := (true, "f0089a84b460f6386c905b242e4d56bdff559f359f78b0eb56da64fe20e2c993"), looks := false }, kinds := [], alts := [], laidByText := true, laidKinds := [.data, .pinned], laidTests := true, laidLooks := .later }
def FnExactAddLinkUptoCardSaid : Prop := Claim7.holds Tryd.pinned (.plain (OpenSpec.upto fnExactAddLinkSpec)) fnExactAddLinkUptoCard

/-- THE SECOND FORM's CARD OF 'laws.FnExactWayUp'. -/
def fnExactWayUpUptoCard : Claim7 := { stood := { row := fnExactWayUpUptoRow, standIns := [], harness := (true, "f0089a84b460f6386c905b242e4d56bdff559f359f78b0eb56da64fe20e2c993"), looks := false }, kinds := [], alts := [], laidByText := true, laidKinds := [.data, .pinned], laidTests := true, laidLooks := .later }
def FnExactWayUpUptoCardSaid : Prop := Claim7.holds Tryd.pinned (.plain (OpenSpec.upto fnExactWayUpSpec)) fnExactWayUpUptoCard

/-- THE SECOND FORM's CARD OF 'laws.FnExactEndLinks'. -/
def fnExactEndLinksUptoCard : Claim7 := { stood := { row := fnExactEndLinksUptoRow, standIns := [], harness := (true, "f0089a84b460f6386c905b242e4d56bdff559f359f78b0eb56da64fe20e2c993"), looks := false }, kinds := [], alts := [], laidByText := true, laidKinds := [.data, .pinned], laidTests := true, laidLooks := .later }
def FnExactEndLinksUptoCardSaid : Prop := Claim7.holds Tryd.pinned (.plain (OpenSpec.upto fnExactEndLinksSpec)) fnExactEndLinksUptoCard

/-- THE SECOND FORM's CARD OF 'laws.FnExactRootsIn'. -/
def fnExactRootsInUptoCard : Claim7 := { stood := { row := fnExactRootsInUptoRow, standIns := [], harness := (true, "f0089a84b460f6386c905b242e4d56bdff559f359f78b0eb56da64fe20e2c993"), looks := false }, kinds := [], alts := [], laidByText := true, laidKinds := [.data, .pinned], laidTests := true, laidLooks := .later }
def FnExactRootsInUptoCardSaid : Prop := Claim7.holds Tryd.pinned (.plain (OpenSpec.upto fnExactRootsInSpec)) fnExactRootsInUptoCard
end Rows
end Go.Proofs.YtgbfihjimbpgnaaDoor
