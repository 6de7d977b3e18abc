/-
  NARROWER THAN 'FOR EVERY INPUT', by the rows' own cells (each row's printed sentence says how): FnExactIsPlace: laid · FnExactIsRegister: laid · FnExactFindPlace: laid · FnExactPlacesIn: laid · FnExactPlacesNamed: laid.
  DERIVED. THE GIVEN ROWS OF THIS SEAT. 5 by the template 'for every input the law returns true; each argument reads behind the call as it read before'; 0 by the template 'total and deterministic' (their statements: YtopfnfaoomigmaaDoorTotals.lean).
  GIVEN WITH THE SEED: the statements are not yours to turn. If you find one false, say at which input.
  Laid BY PROGRAM, IN A SANDBOX (cutbox-rows.mjs): the forced cells as the released guide's own fill.sh prints them over the translation 3ce87067ac57b795… (all of the seat's roots in one cut). By AI agents, Wed Nov 11 2026. No macro, syntax, notation, axiom, sorry.
-/
import Derived.Test.YtopfnfaoomigmaaDoorChecked
import GoSem.PinnedTables
import GoSem.Claim
import GoSem.ClaimJoined
import GoSem.ClaimMapViews
import Derived.JoinedTies
import Derived.KernelRfl
namespace Go.Proofs.YtopfnfaoomigmaaDoor
/- THE CELL 'sum', in the pinned program and in every row, IS THE sha256 OF THE DUMP (.gsa) THAT YtopfnfaoomigmaaDoorProg.lean LOADS. Nothing in Lean hashes anything: it is a label: what it is worth is what the hold of that sum in a sandbox is worth. -/
noncomputable def Tryd.pinned : Pinned := { name := "ytopfnfaoomigmaadoor", sum := "3ce87067ac57b795ec7b94fee26d293e2003e7226b388732684779041f6a097e", checked := Tryd.checked }
namespace Rows
def none {H : Type} : Left H := { results := [], args := [] }

/- WHAT THE LISTED PACKAGE-LEVEL VARIABLES READ AS WHEN THE CALL BEGINS. Each datum BY PROGRAM (the guide's laid-datum.mjs) off the statement by which the dump's own 'gosem.cut.vars' lays the variable. In a bare row this is a premise. The card (YtopfnfaoomigmaaDoorCards.lean) ties it to the program's text. -/
def laid_unicode_utf8_acceptRanges {H : Type} : DataW H := .agg [.agg [.lit (.int .u8 128), .lit (.int .u8 191)], .agg [.lit (.int .u8 160), .lit (.int .u8 191)], .agg [.lit (.int .u8 128), .lit (.int .u8 159)], .agg [.lit (.int .u8 144), .lit (.int .u8 191)], .agg [.lit (.int .u8 128), .lit (.int .u8 143)], .agg [.lit (.int .u8 0), .lit (.int .u8 0)], .agg [.lit (.int .u8 0), .lit (.int .u8 0)], .agg [.lit (.int .u8 0), .lit (.int .u8 0)], .agg [.lit (.int .u8 0), .lit (.int .u8 0)], .agg [.lit (.int .u8 0), .lit (.int .u8 0)], .agg [.lit (.int .u8 0), .lit (.int .u8 0)], .agg [.lit (.int .u8 0), .lit (.int .u8 0)], .agg [.lit (.int .u8 0), .lit (.int .u8 0)], .agg [.lit (.int .u8 0), .lit (.int .u8 0)], .agg [.lit (.int .u8 0), .lit (.int .u8 0)], .agg [.lit (.int .u8 0), .lit (.int .u8 0)]]
/-- One of Go's own tables, pinned by name: the form's constant. -/
def laid_unicode_utf8_first : DataW Unit := Go.Pinned.utf8First

/-- 'laws.FnExactIsPlace': WHATEVER THE INPUT: true; the input reads as it did. -/
def fnExactIsPlaceSpec : ChangeSpec := { name := "fnExactIsPlace", fn := fun _ => fun
  | [d] => { results := [.lit (.bool true)], args := [d] }
  | _ => none }
def fnExactIsPlaceRow : OpenClaim := { program := "ytopfnfaoomigmaadoor", sum := "3ce87067ac57b795ec7b94fee26d293e2003e7226b388732684779041f6a097e", func := "loop.example/g01030/laws.FnExactIsPlace", spec := "fnExactIsPlace", inPlace := ["internal/bytealg.IndexByteString", "internal/bytealg.IndexString", "internal/bytealg.CountString"], unfollowed := true, recurses := true, named := ["unicode/utf8.first", "unicode/utf8.acceptRanges", "internal/bytealg.MaxLen"], apart := false, laid := [("unicode/utf8.acceptRanges", laid_unicode_utf8_acceptRanges), ("unicode/utf8.first", laid_unicode_utf8_first)] }
def FnExactIsPlaceSaid : Prop := fnExactIsPlaceRow.holds Tryd.pinned (OpenSpec.ofChange fnExactIsPlaceSpec)

/-- ITS FALSE NEIGHBOUR: 'it returns false'. Refute it at one input. -/
def fnExactIsPlaceWrong : ChangeSpec := { name := "fnExactIsPlace", fn := fun _ => fun
  | [d] => { results := [.lit (.bool false)], args := [d] }
  | _ => none }
def FnExactIsPlaceWrongFalsely : Prop := fnExactIsPlaceRow.holds Tryd.pinned (OpenSpec.ofChange fnExactIsPlaceWrong)

/-- 'laws.FnExactIsRegister': WHATEVER THE INPUT: true; the input reads as it did. -/
def fnExactIsRegisterSpec : ChangeSpec := { name := "fnExactIsRegister", fn := fun _ => fun
  | [d] => { results := [.lit (.bool true)], args := [d] }
  | _ => none }
def fnExactIsRegisterRow : OpenClaim := { program := "ytopfnfaoomigmaadoor", sum := "3ce87067ac57b795ec7b94fee26d293e2003e7226b388732684779041f6a097e", func := "loop.example/g01030/laws.FnExactIsRegister", spec := "fnExactIsRegister", inPlace := ["internal/bytealg.IndexByteString", "internal/bytealg.IndexString", "internal/bytealg.CountString"], unfollowed := true, recurses := true, named := ["unicode/utf8.first", "unicode/utf8.acceptRanges", "internal/bytealg.MaxLen"], apart := false, laid := [("unicode/utf8.acceptRanges", laid_unicode_utf8_acceptRanges), ("unicode/utf8.first", laid_unicode_utf8_first)] }
def FnExactIsRegisterSaid : Prop := fnExactIsRegisterRow.holds Tryd.pinned (OpenSpec.ofChange fnExactIsRegisterSpec)

/-- ITS FALSE NEIGHBOUR: 'it returns false'. Refute it at one input. -/
def fnExactIsRegisterWrong : ChangeSpec := { name := "fnExactIsRegister", fn := fun _ => fun
  | [d] => { results := [.lit (.bool false)], args := [d] }
  | _ => none }
def FnExactIsRegisterWrongFalsely : Prop := fnExactIsRegisterRow.holds Tryd.pinned (OpenSpec.ofChange fnExactIsRegisterWrong)

/-- 'laws.FnExactFindPlace': WHATEVER THE INPUT: true; the input reads as it did. -/
def fnExactFindPlaceSpec : ChangeSpec := { name := "fnExactFindPlace", fn := fun _ => fun
  | [d1, d2] => { results := [.lit (.bool true)], args := [d1, d2] }
  | _ => none }
def fnExactFindPlaceRow : OpenClaim := { program := "ytopfnfaoomigmaadoor", sum := "3ce87067ac57b795ec7b94fee26d293e2003e7226b388732684779041f6a097e", func := "loop.example/g01030/laws.FnExactFindPlace", spec := "fnExactFindPlace", inPlace := ["internal/bytealg.IndexByteString", "internal/bytealg.IndexString", "internal/bytealg.CountString", "internal/bytealg.abigen_runtime_cmpstring"], unfollowed := true, recurses := true, named := ["unicode/utf8.first", "unicode/utf8.acceptRanges", "internal/bytealg.MaxLen"], apart := false, laid := [("unicode/utf8.acceptRanges", laid_unicode_utf8_acceptRanges), ("unicode/utf8.first", laid_unicode_utf8_first)] }
def FnExactFindPlaceSaid : Prop := fnExactFindPlaceRow.holds Tryd.pinned (OpenSpec.ofChange fnExactFindPlaceSpec)

/-- ITS FALSE NEIGHBOUR: 'it returns false'. Refute it at one input. -/
def fnExactFindPlaceWrong : ChangeSpec := { name := "fnExactFindPlace", fn := fun _ => fun
  | [d1, d2] => { results := [.lit (.bool false)], args := [d1, d2] }
  | _ => none }
def FnExactFindPlaceWrongFalsely : Prop := fnExactFindPlaceRow.holds Tryd.pinned (OpenSpec.ofChange fnExactFindPlaceWrong)

/-- 'laws.FnExactPlacesIn': WHATEVER THE INPUT: true; the input reads as it did. -/
def fnExactPlacesInSpec : ChangeSpec := { name := "fnExactPlacesIn", fn := fun _ => fun
  | [d1, d2] => { results := [.lit (.bool true)], args := [d1, d2] }
  | _ => none }
def fnExactPlacesInRow : OpenClaim := { program := "ytopfnfaoomigmaadoor", sum := "3ce87067ac57b795ec7b94fee26d293e2003e7226b388732684779041f6a097e", func := "loop.example/g01030/laws.FnExactPlacesIn", spec := "fnExactPlacesIn", inPlace := ["internal/bytealg.IndexByteString", "internal/bytealg.IndexString", "internal/bytealg.CountString"], unfollowed := true, recurses := true, named := ["unicode/utf8.first", "unicode/utf8.acceptRanges", "internal/bytealg.MaxLen"], apart := false, laid := [("unicode/utf8.acceptRanges", laid_unicode_utf8_acceptRanges), ("unicode/utf8.first", laid_unicode_utf8_first)] }
def FnExactPlacesInSaid : Prop := fnExactPlacesInRow.holds Tryd.pinned (OpenSpec.ofChange fnExactPlacesInSpec)

/-- ITS FALSE NEIGHBOUR: 'it returns false'. Refute it at one input. -/
def fnExactPlacesInWrong : ChangeSpec := { name := "fnExactPlacesIn", fn := fun _ => fun
  | [d1, d2] => { results := [.lit (.bool false)], args := [d1, d2] }
  | _ => none }
def FnExactPlacesInWrongFalsely : Prop := fnExactPlacesInRow.holds Tryd.pinned (OpenSpec.ofChange fnExactPlacesInWrong)

/-- 'laws.FnExactPlacesNamed': WHATEVER THE INPUT: true; the input reads as it did. -/
def fnExactPlacesNamedSpec : ChangeSpec := { name := "fnExactPlacesNamed", fn := fun _ => fun
  | [d1, d2, d3] => { results := [.lit (.bool true)], args := [d1, d2, d3] }
  | _ => none }
def fnExactPlacesNamedRow : OpenClaim := { program := "ytopfnfaoomigmaadoor", sum := "3ce87067ac57b795ec7b94fee26d293e2003e7226b388732684779041f6a097e", func := "loop.example/g01030/laws.FnExactPlacesNamed", spec := "fnExactPlacesNamed", inPlace := ["internal/bytealg.CountString", "internal/bytealg.IndexByteString", "internal/bytealg.IndexString"], unfollowed := true, recurses := true, named := ["unicode/utf8.first", "unicode/utf8.acceptRanges", "internal/bytealg.MaxLen"], apart := false, laid := [("unicode/utf8.acceptRanges", laid_unicode_utf8_acceptRanges), ("unicode/utf8.first", laid_unicode_utf8_first)] }
def FnExactPlacesNamedSaid : Prop := fnExactPlacesNamedRow.holds Tryd.pinned (OpenSpec.ofChange fnExactPlacesNamedSpec)

/-- ITS FALSE NEIGHBOUR: 'it returns false'. Refute it at one input. -/
def fnExactPlacesNamedWrong : ChangeSpec := { name := "fnExactPlacesNamed", fn := fun _ => fun
  | [d1, d2, d3] => { results := [.lit (.bool false)], args := [d1, d2, d3] }
  | _ => none }
def FnExactPlacesNamedWrongFalsely : Prop := fnExactPlacesNamedRow.holds Tryd.pinned (OpenSpec.ofChange fnExactPlacesNamedWrong)

/- THE SECOND FORM. 'bulk': how many values and letters a reading holds, each counted each time it is reached (what is shared counts as often as it is met; a slice's spare places count too). A statement '..UptoSaid' is the law's where the arguments, and the package variables that the reading takes, are together of bulk at most 1048576: NARROWER than '..Said'. Prove '..Said' where nothing that the law and all that it calls make is longer than what came in: it says more and counts as full. Else prove '..UptoSaid'. A law counts once. -/
mutual
def uptoBulk {H : Type} : DataW H → Nat
  | .lit (.string bytes) => bytes.length + 1
  | .lit _ => 1
  | .nil => 1
  | .ptr d => uptoBulk d + 1
  | .slice elems spare => uptoBulkAll elems + uptoBulkAll spare + 1
  | .agg parts => uptoBulkAll parts + 1
  | .iface _ d => uptoBulk d + 1
  | .map entries => uptoBulkEntries entries + 1
  | .held _ => 1
def uptoBulkAll {H : Type} : List (DataW H) → Nat
  | [] => 0
  | d :: r => uptoBulk d + uptoBulkAll r
def uptoBulkEntries {H : Type} : List (Lit × DataW H) → Nat
  | [] => 0
  | x :: r => uptoBulkEntry x + uptoBulkEntries r
def uptoBulkEntry {H : Type} : Lit × DataW H → Nat
  | (.string bytes, d) => bytes.length + uptoBulk d + 1
  | (_, d) => uptoBulk d + 1
 end
def uptoSmall : (H : Type) → List (DataW H) → Bool := fun _ ds => decide (uptoBulkAll ds ≤ 1048576)
def OpenSpec.upto (s : _root_.Go.ChangeSpec) : _root_.Go.OpenSpec := { _root_.Go.OpenSpec.ofChange s with cond := some uptoSmall }

/-- 'laws.FnExactIsPlace', WHERE WHAT IT READS IS OF BULK AT MOST 1048576: true; the input reads as it did. -/
def fnExactIsPlaceUptoRow : OpenClaim := { program := "ytopfnfaoomigmaadoor", sum := "3ce87067ac57b795ec7b94fee26d293e2003e7226b388732684779041f6a097e", func := "loop.example/g01030/laws.FnExactIsPlace", spec := "fnExactIsPlace", inPlace := ["internal/bytealg.IndexByteString", "internal/bytealg.IndexString", "internal/bytealg.CountString"], unfollowed := true, recurses := true, named := ["unicode/utf8.first", "unicode/utf8.acceptRanges", "internal/bytealg.MaxLen"], apart := false, laid := [("unicode/utf8.acceptRanges", laid_unicode_utf8_acceptRanges), ("unicode/utf8.first", laid_unicode_utf8_first)], narrowed := true }
def FnExactIsPlaceUptoSaid : Prop := fnExactIsPlaceUptoRow.holds Tryd.pinned (OpenSpec.upto fnExactIsPlaceSpec)

/-- 'laws.FnExactIsRegister', WHERE WHAT IT READS IS OF BULK AT MOST 1048576: true; the input reads as it did. -/
def fnExactIsRegisterUptoRow : OpenClaim := { program := "ytopfnfaoomigmaadoor", sum := "3ce87067ac57b795ec7b94fee26d293e2003e7226b388732684779041f6a097e", func := "loop.example/g01030/laws.FnExactIsRegister", spec := "fnExactIsRegister", inPlace := ["internal/bytealg.IndexByteString", "internal/bytealg.IndexString", "internal/bytealg.CountString"], unfollowed := true, recurses := true, named := ["unicode/utf8.first", "unicode/utf8.acceptRanges", "internal/bytealg.MaxLen"], apart := false, laid := [("unicode/utf8.acceptRanges", laid_unicode_utf8_acceptRanges), ("unicode/utf8.first", laid_unicode_utf8_first)], narrowed := true }
def FnExactIsRegisterUptoSaid : Prop := fnExactIsRegisterUptoRow.holds Tryd.pinned (OpenSpec.upto fnExactIsRegisterSpec)

/-- 'laws.FnExactFindPlace', WHERE WHAT IT READS IS OF BULK AT MOST 1048576: true; the input reads as it did. -/
def fnExactFindPlaceUptoRow : OpenClaim := { program := "ytopfnfaoomigmaadoor", sum := "3ce87067ac57b795ec7b94fee26d293e2003e7226b388732684779041f6a097e", func := "loop.example/g01030/laws.FnExactFindPlace", spec := "fnExactFindPlace", inPlace := ["internal/bytealg.IndexByteString", "internal/bytealg.IndexString", "internal/bytealg.CountString", "internal/bytealg.abigen_runtime_cmpstring"], unfollowed := true, recurses := true, named := ["unicode/utf8.first", "unicode/utf8.acceptRanges", "internal/bytealg.MaxLen"], apart := false, laid := [("unicode/utf8.acceptRanges", laid_unicode_utf8_acceptRanges), ("unicode/utf8.first", laid_unicode_utf8_first)], narrowed := true }
def FnExactFindPlaceUptoSaid : Prop := fnExactFindPlaceUptoRow.holds Tryd.pinned (OpenSpec.upto fnExactFindPlaceSpec)

/-- 'laws.FnExactPlacesIn', WHERE WHAT IT READS IS OF BULK AT MOST 1048576: true; the input reads as it did. -/
def fnExactPlacesInUptoRow : OpenClaim := { program := "ytopfnfaoomigmaadoor", sum := "3ce87067ac57b795ec7b94fee26d293e2003e7226b388732684779041f6a097e", func := "loop.example/g01030/laws.FnExactPlacesIn", spec := "fnExactPlacesIn", inPlace := ["internal/bytealg.IndexByteString", "internal/bytealg.IndexString", "internal/bytealg.CountString"], unfollowed := true, recurses := true, named := ["unicode/utf8.first", "unicode/utf8.acceptRanges", "internal/bytealg.MaxLen"], apart := false, laid := [("unicode/utf8.acceptRanges", laid_unicode_utf8_acceptRanges), ("unicode/utf8.first", laid_unicode_utf8_first)], narrowed := true }
def FnExactPlacesInUptoSaid : Prop := fnExactPlacesInUptoRow.holds Tryd.pinned (OpenSpec.upto fnExactPlacesInSpec)

/-- 'laws.FnExactPlacesNamed', WHERE WHAT IT READS IS OF BULK AT MOST 1048576: true; the input reads as it did. -/
def fnExactPlacesNamedUptoRow : OpenClaim := { program := "ytopfnfaoomigmaadoor", sum := "3ce87067ac57b795ec7b94fee26d293e2003e7226b388732684779041f6a097e", func := "loop.example/g01030/laws.FnExactPlacesNamed", spec := "fnExactPlacesNamed", inPlace := ["internal/bytealg.CountString", "internal/bytealg.IndexByteString", "internal/bytealg.IndexString"], unfollowed := true, recurses := true, named := ["unicode/utf8.first", "unicode/utf8.acceptRanges", "internal/bytealg.MaxLen"], apart := false, laid := [("unicode/utf8.acceptRanges", laid_unicode_utf8_acceptRanges), ("unicode/utf8.first", laid_unicode_utf8_first)], narrowed := true }
def FnExactPlacesNamedUptoSaid : Prop := fnExactPlacesNamedUptoRow.holds Tryd.pinned (OpenSpec.upto fnExactPlacesNamedSpec)

end Rows
end Go.Proofs.YtopfnfaoomigmaaDoor
