/-
  DERIVED. GIVEN WITH THE SEED: THE CARDS: each row of YthdinjdbblppdaaDoorRows.lean that lists a variable, with what it lists TIED to the program's text (the seventh form; the later family's looks); each row that meets fmt, with fmt's text TOLD by the authors' own Lean function (tested against real Go, not proved from fmt's source: count such statements apart). THE CARD IS WHAT COUNTS. Prove the row's statement (the work); the ties are given (YthdinjdbblppdaaDoorTie.lean); close each card by the builder's one call (the guide's Derived/Test/ToyasCard.lean, 'card_holds'). Laid BY PROGRAM, IN A SANDBOX (cutbox-door.mjs). By AI agents, Wed Nov 11 2026. No macro, syntax, notation, axiom, sorry.
-/
import Derived.Test.YthdinjdbblppdaaDoorRows
import GoSem.ClaimSeven
namespace Go.Proofs.YthdinjdbblppdaaDoor
namespace Rows

/-- THE TIED CARD OF 'laws.FnExactNearestWords'. -/
def fnExactNearestWordsCard : Claim7 := { stood := { row := fnExactNearestWordsRow, standIns := [], harness := (true, "ea7124de549bfdd82c406191af693d9c068793e6dc3d7c2f1cdf9aed5181dec8"), looks := false }, kinds := [], alts := [], laidByText := true, laidKinds := [.data, .pinned], laidTests := true, laidLooks := .later }
def FnExactNearestWordsCardSaid : Prop := Claim7.holds Tryd.pinned (.plain (OpenSpec.ofChange fnExactNearestWordsSpec)) fnExactNearestWordsCard

/-- THE TIED CARD OF 'laws.FnNearest'. -/
def fnNearestCard : Claim7 := { stood := { row := fnNearestRow, standIns := [], harness := (true, "ea7124de549bfdd82c406191af693d9c068793e6dc3d7c2f1cdf9aed5181dec8"), looks := false }, kinds := [], alts := [], laidByText := true, laidKinds := [.data, .pinned], laidTests := true, laidLooks := .later }
def FnNearestCardSaid : Prop := Claim7.holds Tryd.pinned (.plain (OpenSpec.ofChange fnNearestSpec)) fnNearestCard

/-- THE TIED CARD OF 'laws.FnExactSoundOf'. -/
def fnExactSoundOfCard : Claim7 := { stood := { row := fnExactSoundOfRow, standIns := [], harness := (true, "ea7124de549bfdd82c406191af693d9c068793e6dc3d7c2f1cdf9aed5181dec8"), looks := false }, kinds := [], alts := [], laidByText := true, laidKinds := [.data, .data, .data, .data, .pinned], laidTests := true, laidLooks := .later }
def FnExactSoundOfCardSaid : Prop := Claim7.holds Tryd.pinned (.plain (OpenSpec.ofChange fnExactSoundOfSpec)) fnExactSoundOfCard

/-- THE TIED CARD OF 'laws.FnExactDoSoundAlike'. -/
def fnExactDoSoundAlikeCard : Claim7 := { stood := { row := fnExactDoSoundAlikeRow, standIns := [], harness := (true, "ea7124de549bfdd82c406191af693d9c068793e6dc3d7c2f1cdf9aed5181dec8"), looks := false }, kinds := [], alts := [], laidByText := true, laidKinds := [.data, .data, .data, .data, .pinned], laidTests := true, laidLooks := .later }
def FnExactDoSoundAlikeCardSaid : Prop := Claim7.holds Tryd.pinned (.plain (OpenSpec.ofChange fnExactDoSoundAlikeSpec)) fnExactDoSoundAlikeCard

/-- THE TIED CARD OF 'laws.FnExactMatchSounds'. -/
def fnExactMatchSoundsCard : Claim7 := { stood := { row := fnExactMatchSoundsRow, standIns := [], harness := (true, "ea7124de549bfdd82c406191af693d9c068793e6dc3d7c2f1cdf9aed5181dec8"), looks := false }, kinds := [], alts := [], laidByText := true, laidKinds := [.data, .data, .data, .data, .pinned], laidTests := true, laidLooks := .later }
def FnExactMatchSoundsCardSaid : Prop := Claim7.holds Tryd.pinned (.plain (OpenSpec.ofChange fnExactMatchSoundsSpec)) fnExactMatchSoundsCard

/-- THE TIED CARD OF 'laws.FnExactGroupsBySound'. -/
def fnExactGroupsBySoundCard : Claim7 := { stood := { row := fnExactGroupsBySoundRow, standIns := [], harness := (true, "ea7124de549bfdd82c406191af693d9c068793e6dc3d7c2f1cdf9aed5181dec8"), looks := false }, kinds := [], alts := [], laidByText := true, laidKinds := [.data, .data, .data, .data, .pinned], laidTests := true, laidLooks := .later }
def FnExactGroupsBySoundCardSaid : Prop := Claim7.holds Tryd.pinned (.plain (OpenSpec.ofChange fnExactGroupsBySoundSpec)) fnExactGroupsBySoundCard

/-- THE TIED CARD OF 'laws.FnExactPhraseSound'. -/
def fnExactPhraseSoundCard : Claim7 := { stood := { row := fnExactPhraseSoundRow, standIns := [], harness := (true, "ea7124de549bfdd82c406191af693d9c068793e6dc3d7c2f1cdf9aed5181dec8"), looks := false }, kinds := [], alts := [], laidByText := true, laidKinds := [.data, .data, .data, .data, .pinned], laidTests := true, laidLooks := .later }
def FnExactPhraseSoundCardSaid : Prop := Claim7.holds Tryd.pinned (.plain (OpenSpec.ofChange fnExactPhraseSoundSpec)) fnExactPhraseSoundCard

/-- THE SECOND FORM's CARD OF 'laws.FnExactNearestWords'. -/
def fnExactNearestWordsUptoCard : Claim7 := { stood := { row := fnExactNearestWordsUptoRow, standIns := [], harness := (true, "ea7124de549bfdd82c406191af693d9c068793e6dc3d7c2f1cdf9aed5181dec8"), looks := false }, kinds := [], alts := [], laidByText := true, laidKinds := [.data, .pinned], laidTests := true, laidLooks := .later }
def FnExactNearestWordsUptoCardSaid : Prop := Claim7.holds Tryd.pinned (.plain (OpenSpec.upto fnExactNearestWordsSpec)) fnExactNearestWordsUptoCard

/-- THE SECOND FORM's CARD OF 'laws.FnNearest'. -/
def fnNearestUptoCard : Claim7 := { stood := { row := fnNearestUptoRow, standIns := [], harness := (true, "ea7124de549bfdd82c406191af693d9c068793e6dc3d7c2f1cdf9aed5181dec8"), looks := false }, kinds := [], alts := [], laidByText := true, laidKinds := [.data, .pinned], laidTests := true, laidLooks := .later }
def FnNearestUptoCardSaid : Prop := Claim7.holds Tryd.pinned (.plain (OpenSpec.upto fnNearestSpec)) fnNearestUptoCard

/-- THE SECOND FORM's CARD OF 'laws.FnExactSoundOf'. -/
def fnExactSoundOfUptoCard : Claim7 := { stood := { row := fnExactSoundOfUptoRow, standIns := [], harness := (true, "ea7124de549bfdd82c406191af693d9c068793e6dc3d7c2f1cdf9aed5181dec8"), looks := false }, kinds := [], alts := [], laidByText := true, laidKinds := [.data, .data, .data, .data, .pinned], laidTests := true, laidLooks := .later }
def FnExactSoundOfUptoCardSaid : Prop := Claim7.holds Tryd.pinned (.plain (OpenSpec.upto fnExactSoundOfSpec)) fnExactSoundOfUptoCard

/-- THE SECOND FORM's CARD OF 'laws.FnExactDoSoundAlike'. -/
def fnExactDoSoundAlikeUptoCard : Claim7 := { stood := { row := fnExactDoSoundAlikeUptoRow, standIns := [], harness := (true, "ea7124de549bfdd82c406191af693d9c068793e6dc3d7c2f1cdf9aed5181dec8"), looks := false }, kinds := [], alts := [], laidByText := true, laidKinds := [.data, .data, .data, .data, .pinned], laidTests := true, laidLooks := .later }
def FnExactDoSoundAlikeUptoCardSaid : Prop := Claim7.holds Tryd.pinned (.plain (OpenSpec.upto fnExactDoSoundAlikeSpec)) fnExactDoSoundAlikeUptoCard

/-- THE SECOND FORM's CARD OF 'laws.FnExactMatchSounds'. -/
def fnExactMatchSoundsUptoCard : Claim7 := { stood := { row := fnExactMatchSoundsUptoRow, standIns := [], harness := (true, "ea7124de549bfdd82c406191af693d9c068793e6dc3d7c2f1cdf9aed5181dec8"), looks := false }, kinds := [], alts := [], laidByText := true, laidKinds := [.data, .data, .data, .data, .pinned], laidTests := true, laidLooks := .later }
def FnExactMatchSoundsUptoCardSaid : Prop := Claim7.holds Tryd.pinned (.plain (OpenSpec.upto fnExactMatchSoundsSpec)) fnExactMatchSoundsUptoCard

/-- THE SECOND FORM's CARD OF 'laws.FnExactGroupsBySound'. -/
def fnExactGroupsBySoundUptoCard : Claim7 := { stood := { row := fnExactGroupsBySoundUptoRow, standIns := [], harness := (true, "ea7124de549bfdd82c406191af693d9c068793e6dc3d7c2f1cdf9aed5181dec8"), looks := false }, kinds := [], alts := [], laidByText := true, laidKinds := [.data, .data, .data, .data, .pinned], laidTests := true, laidLooks := .later }
def FnExactGroupsBySoundUptoCardSaid : Prop := Claim7.holds Tryd.pinned (.plain (OpenSpec.upto fnExactGroupsBySoundSpec)) fnExactGroupsBySoundUptoCard

/-- THE SECOND FORM's CARD OF 'laws.FnExactPhraseSound'. -/
def fnExactPhraseSoundUptoCard : Claim7 := { stood := { row := fnExactPhraseSoundUptoRow, standIns := [], harness := (true, "ea7124de549bfdd82c406191af693d9c068793e6dc3d7c2f1cdf9aed5181dec8"), looks := false }, kinds := [], alts := [], laidByText := true, laidKinds := [.data, .data, .data, .data, .pinned], laidTests := true, laidLooks := .later }
def FnExactPhraseSoundUptoCardSaid : Prop := Claim7.holds Tryd.pinned (.plain (OpenSpec.upto fnExactPhraseSoundSpec)) fnExactPhraseSoundUptoCard
end Rows
end Go.Proofs.YthdinjdbblppdaaDoor
