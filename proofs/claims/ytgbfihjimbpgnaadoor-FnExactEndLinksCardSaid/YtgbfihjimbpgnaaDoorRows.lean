/-
  NARROWER THAN 'FOR EVERY INPUT', by the rows' own cells (each row's printed sentence says how): FnExactAreLinks: laid · FnExactParentIn: laid · FnExactMeetingIn: laid · FnExactAddLink: laid · FnExactWayUp: laid · FnExactEndLinks: laid · FnExactRootsIn: laid.
  DERIVED. THE GIVEN ROWS OF THIS SEAT. 7 by the template 'for every input the law returns true; each argument reads behind the call as it read before'; 0 by the template 'total and deterministic' (their statements: YtgbfihjimbpgnaaDoorTotals.lean).
  GIVEN WITH THE SEED: the statements are not yours to turn. If you find one false, say at which input.
  Laid BY PROGRAM, IN A SANDBOX (cutbox-rows.mjs): the forced cells as the released guide's own fill.sh prints them over the translation 01c1da492da2c7c6… (all of the seat's roots in one cut). By AI agents, Wed Nov 11 2026. No macro, syntax, notation, axiom, sorry.
-/
import Derived.Test.YtgbfihjimbpgnaaDoorChecked
import GoSem.PinnedTables
import GoSem.Claim
import GoSem.ClaimJoined
import GoSem.ClaimMapViews
import Derived.JoinedTies
import Derived.KernelRfl
namespace Go.Proofs.YtgbfihjimbpgnaaDoor
/- THE CELL 'sum', in the pinned program and in every row, IS THE sha256 OF THE DUMP (.gsa) THAT YtgbfihjimbpgnaaDoorProg.lean LOADS. Nothing in Lean hashes anything: it is a label: what it is worth is what the hold of that sum in a sandbox is worth. -/
noncomputable def Tryd.pinned : Pinned := { name := "ytgbfihjimbpgnaadoor", sum := "01c1da492da2c7c6092cc73c131ed567d14747c03363ebd7b02150be940e8a24", checked := Tryd.checked }
namespace Rows
def none {H : Type} : Left H := { results := [], args := [] }

/- WHAT THE LISTED PACKAGE-LEVEL VARIABLES READ AS WHEN THE CALL BEGINS. Each datum BY PROGRAM (the guide's laid-datum.mjs) off the statement by which the dump's own 'gosem.cut.vars' lays the variable. In a bare row this is a premise. The card (YtgbfihjimbpgnaaDoorCards.lean) ties it to the program's text. -/
def laid_unicode_utf8_acceptRanges {H : Type} : DataW H := .agg [.agg [.lit (.int .u8 128), .lit (.int .u8 191)], .agg [.lit (.int .u8 160), .lit (.int .u8 191)], .agg [.lit (.int .u8 128), .lit (.int .u8 159)], .agg [.lit (.int .u8 144), .lit (.int .u8 191)], .agg [.lit (.int .u8 128), .lit (.int .u8 143)], .agg [.lit (.int .u8 0), .lit (.int .u8 0)], .agg [.lit (.int .u8 0), .lit (.int .u8 0)], .agg [.lit (.int .u8 0), .lit (.int .u8 0)], .agg [.lit (.int .u8 0), .lit (.int .u8 0)], .agg [.lit (.int .u8 0), .lit (.int .u8 0)], .agg [.lit (.int .u8 0), .lit (.int .u8 0)], .agg [.lit (.int .u8 0), .lit (.int .u8 0)], .agg [.lit (.int .u8 0), .lit (.int .u8 0)], .agg [.lit (.int .u8 0), .lit (.int .u8 0)], .agg [.lit (.int .u8 0), .lit (.int .u8 0)], .agg [.lit (.int .u8 0), .lit (.int .u8 0)]]
/-- One of Go's own tables, pinned by name: the form's constant. -/
def laid_unicode_utf8_first : DataW Unit := Go.Pinned.utf8First

/-- 'laws.FnExactAreLinks': WHATEVER THE INPUT: true; the input reads as it did. -/
def fnExactAreLinksSpec : ChangeSpec := { name := "fnExactAreLinks", fn := fun _ => fun
  | [d] => { results := [.lit (.bool true)], args := [d] }
  | _ => none }
def fnExactAreLinksRow : OpenClaim := { program := "ytgbfihjimbpgnaadoor", sum := "01c1da492da2c7c6092cc73c131ed567d14747c03363ebd7b02150be940e8a24", func := "loop.example/g01030/laws.FnExactAreLinks", spec := "fnExactAreLinks", inPlace := ["internal/bytealg.IndexByteString", "internal/bytealg.IndexString"], unfollowed := true, recurses := true, named := ["unicode/utf8.first", "unicode/utf8.acceptRanges", "internal/bytealg.MaxLen"], apart := false, laid := [("unicode/utf8.acceptRanges", laid_unicode_utf8_acceptRanges), ("unicode/utf8.first", laid_unicode_utf8_first)] }
def FnExactAreLinksSaid : Prop := fnExactAreLinksRow.holds Tryd.pinned (OpenSpec.ofChange fnExactAreLinksSpec)

/-- ITS FALSE NEIGHBOUR: 'it returns false'. Refute it at one input. -/
def fnExactAreLinksWrong : ChangeSpec := { name := "fnExactAreLinks", fn := fun _ => fun
  | [d] => { results := [.lit (.bool false)], args := [d] }
  | _ => none }
def FnExactAreLinksWrongFalsely : Prop := fnExactAreLinksRow.holds Tryd.pinned (OpenSpec.ofChange fnExactAreLinksWrong)

/-- 'laws.FnExactParentIn': WHATEVER THE INPUT: true; the input reads as it did. -/
def fnExactParentInSpec : ChangeSpec := { name := "fnExactParentIn", fn := fun _ => fun
  | [d1, d2, d3] => { results := [.lit (.bool true)], args := [d1, d2, d3] }
  | _ => none }
def fnExactParentInRow : OpenClaim := { program := "ytgbfihjimbpgnaadoor", sum := "01c1da492da2c7c6092cc73c131ed567d14747c03363ebd7b02150be940e8a24", func := "loop.example/g01030/laws.FnExactParentIn", spec := "fnExactParentIn", inPlace := ["internal/bytealg.IndexByteString", "internal/bytealg.IndexString"], unfollowed := true, recurses := true, named := ["unicode/utf8.first", "unicode/utf8.acceptRanges", "internal/bytealg.MaxLen"], apart := false, laid := [("unicode/utf8.acceptRanges", laid_unicode_utf8_acceptRanges), ("unicode/utf8.first", laid_unicode_utf8_first)] }
def FnExactParentInSaid : Prop := fnExactParentInRow.holds Tryd.pinned (OpenSpec.ofChange fnExactParentInSpec)

/-- ITS FALSE NEIGHBOUR: 'it returns false'. Refute it at one input. -/
def fnExactParentInWrong : ChangeSpec := { name := "fnExactParentIn", fn := fun _ => fun
  | [d1, d2, d3] => { results := [.lit (.bool false)], args := [d1, d2, d3] }
  | _ => none }
def FnExactParentInWrongFalsely : Prop := fnExactParentInRow.holds Tryd.pinned (OpenSpec.ofChange fnExactParentInWrong)

/-- 'laws.FnExactMeetingIn': WHATEVER THE INPUT: true; the input reads as it did. -/
def fnExactMeetingInSpec : ChangeSpec := { name := "fnExactMeetingIn", fn := fun _ => fun
  | [d1, d2, d3, d4] => { results := [.lit (.bool true)], args := [d1, d2, d3, d4] }
  | _ => none }
def fnExactMeetingInRow : OpenClaim := { program := "ytgbfihjimbpgnaadoor", sum := "01c1da492da2c7c6092cc73c131ed567d14747c03363ebd7b02150be940e8a24", func := "loop.example/g01030/laws.FnExactMeetingIn", spec := "fnExactMeetingIn", inPlace := ["internal/bytealg.IndexByteString", "internal/bytealg.IndexString"], unfollowed := true, recurses := true, named := ["unicode/utf8.first", "unicode/utf8.acceptRanges", "internal/bytealg.MaxLen"], apart := false, laid := [("unicode/utf8.acceptRanges", laid_unicode_utf8_acceptRanges), ("unicode/utf8.first", laid_unicode_utf8_first)] }
def FnExactMeetingInSaid : Prop := fnExactMeetingInRow.holds Tryd.pinned (OpenSpec.ofChange fnExactMeetingInSpec)

/-- ITS FALSE NEIGHBOUR: 'it returns false'. Refute it at one input. -/
def fnExactMeetingInWrong : ChangeSpec := { name := "fnExactMeetingIn", fn := fun _ => fun
  | [d1, d2, d3, d4] => { results := [.lit (.bool false)], args := [d1, d2, d3, d4] }
  | _ => none }
def FnExactMeetingInWrongFalsely : Prop := fnExactMeetingInRow.holds Tryd.pinned (OpenSpec.ofChange fnExactMeetingInWrong)

/-- 'laws.FnExactAddLink': WHATEVER THE INPUT: true; the input reads as it did. -/
def fnExactAddLinkSpec : ChangeSpec := { name := "fnExactAddLink", fn := fun _ => fun
  | [d1, d2] => { results := [.lit (.bool true)], args := [d1, d2] }
  | _ => none }
def fnExactAddLinkRow : OpenClaim := { program := "ytgbfihjimbpgnaadoor", sum := "01c1da492da2c7c6092cc73c131ed567d14747c03363ebd7b02150be940e8a24", func := "loop.example/g01030/laws.FnExactAddLink", spec := "fnExactAddLink", inPlace := ["internal/bytealg.IndexByteString", "internal/bytealg.IndexString"], unfollowed := true, recurses := true, named := ["unicode/utf8.first", "unicode/utf8.acceptRanges", "internal/bytealg.MaxLen"], apart := false, laid := [("unicode/utf8.acceptRanges", laid_unicode_utf8_acceptRanges), ("unicode/utf8.first", laid_unicode_utf8_first)] }
def FnExactAddLinkSaid : Prop := fnExactAddLinkRow.holds Tryd.pinned (OpenSpec.ofChange fnExactAddLinkSpec)

/-- ITS FALSE NEIGHBOUR: 'it returns false'. Refute it at one input. -/
def fnExactAddLinkWrong : ChangeSpec := { name := "fnExactAddLink", fn := fun _ => fun
  | [d1, d2] => { results := [.lit (.bool false)], args := [d1, d2] }
  | _ => none }
def FnExactAddLinkWrongFalsely : Prop := fnExactAddLinkRow.holds Tryd.pinned (OpenSpec.ofChange fnExactAddLinkWrong)

/-- 'laws.FnExactWayUp': WHATEVER THE INPUT: true; the input reads as it did. -/
def fnExactWayUpSpec : ChangeSpec := { name := "fnExactWayUp", fn := fun _ => fun
  | [d1, d2, d3] => { results := [.lit (.bool true)], args := [d1, d2, d3] }
  | _ => none }
def fnExactWayUpRow : OpenClaim := { program := "ytgbfihjimbpgnaadoor", sum := "01c1da492da2c7c6092cc73c131ed567d14747c03363ebd7b02150be940e8a24", func := "loop.example/g01030/laws.FnExactWayUp", spec := "fnExactWayUp", inPlace := ["internal/bytealg.IndexByteString", "internal/bytealg.IndexString"], unfollowed := true, recurses := true, named := ["unicode/utf8.first", "unicode/utf8.acceptRanges", "internal/bytealg.MaxLen"], apart := false, laid := [("unicode/utf8.acceptRanges", laid_unicode_utf8_acceptRanges), ("unicode/utf8.first", laid_unicode_utf8_first)] }
def FnExactWayUpSaid : Prop := fnExactWayUpRow.holds Tryd.pinned (OpenSpec.ofChange fnExactWayUpSpec)

/-- ITS FALSE NEIGHBOUR: 'it returns false'. Refute it at one input. -/
def fnExactWayUpWrong : ChangeSpec := { name := "fnExactWayUp", fn := fun _ => fun
  | [d1, d2, d3] => { results := [.lit (.bool false)], args := [d1, d2, d3] }
  | _ => none }
def FnExactWayUpWrongFalsely : Prop := fnExactWayUpRow.holds Tryd.pinned (OpenSpec.ofChange fnExactWayUpWrong)

/-- 'laws.FnExactEndLinks': WHATEVER THE INPUT: true; the input reads as it did. -/
def fnExactEndLinksSpec : ChangeSpec := { name := "fnExactEndLinks", fn := fun _ => fun
  | [d1, d2, d3] => { results := [.lit (.bool true)], args := [d1, d2, d3] }
  | _ => none }
def fnExactEndLinksRow : OpenClaim := { program := "ytgbfihjimbpgnaadoor", sum := "01c1da492da2c7c6092cc73c131ed567d14747c03363ebd7b02150be940e8a24", func := "loop.example/g01030/laws.FnExactEndLinks", spec := "fnExactEndLinks", inPlace := ["internal/bytealg.IndexByteString", "internal/bytealg.IndexString"], unfollowed := true, recurses := true, named := ["unicode/utf8.first", "unicode/utf8.acceptRanges", "internal/bytealg.MaxLen"], apart := false, laid := [("unicode/utf8.acceptRanges", laid_unicode_utf8_acceptRanges), ("unicode/utf8.first", laid_unicode_utf8_first)] }
def FnExactEndLinksSaid : Prop := fnExactEndLinksRow.holds Tryd.pinned (OpenSpec.ofChange fnExactEndLinksSpec)

/-- ITS FALSE NEIGHBOUR: 'it returns false'. Refute it at one input. -/
def fnExactEndLinksWrong : ChangeSpec := { name := "fnExactEndLinks", fn := fun _ => fun
  | [d1, d2, d3] => { results := [.lit (.bool false)], args := [d1, d2, d3] }
  | _ => none }
def FnExactEndLinksWrongFalsely : Prop := fnExactEndLinksRow.holds Tryd.pinned (OpenSpec.ofChange fnExactEndLinksWrong)

/-- 'laws.FnExactRootsIn': WHATEVER THE INPUT: true; the input reads as it did. -/
def fnExactRootsInSpec : ChangeSpec := { name := "fnExactRootsIn", fn := fun _ => fun
  | [d1, d2] => { results := [.lit (.bool true)], args := [d1, d2] }
  | _ => none }
def fnExactRootsInRow : OpenClaim := { program := "ytgbfihjimbpgnaadoor", sum := "01c1da492da2c7c6092cc73c131ed567d14747c03363ebd7b02150be940e8a24", func := "loop.example/g01030/laws.FnExactRootsIn", spec := "fnExactRootsIn", inPlace := ["internal/bytealg.IndexByteString", "internal/bytealg.IndexString"], unfollowed := true, recurses := true, named := ["unicode/utf8.first", "unicode/utf8.acceptRanges", "internal/bytealg.MaxLen"], apart := false, laid := [("unicode/utf8.acceptRanges", laid_unicode_utf8_acceptRanges), ("unicode/utf8.first", laid_unicode_utf8_first)] }
def FnExactRootsInSaid : Prop := fnExactRootsInRow.holds Tryd.pinned (OpenSpec.ofChange fnExactRootsInSpec)

/-- ITS FALSE NEIGHBOUR: 'it returns false'. Refute it at one input. -/
def fnExactRootsInWrong : ChangeSpec := { name := "fnExactRootsIn", fn := fun _ => fun
  | [d1, d2] => { results := [.lit (.bool false)], args := [d1, d2] }
  | _ => none }
def FnExactRootsInWrongFalsely : Prop := fnExactRootsInRow.holds Tryd.pinned (OpenSpec.ofChange fnExactRootsInWrong)

/- THE SECOND FORM. 'bulk': how many values and letters a reading holds, each counted each time it is reached (what is shared counts as often as it is met; a slice's spare places count too). A statement '..UptoSaid' is the law's where the arguments, and the package variables that the reading takes, are together of bulk at most 1048576: NARROWER than '..Said'. Prove '..Said' where nothing that the law and all that it calls make is longer than what came in: it says more and counts as full. Else prove '..UptoSaid'. A law counts once. -/
mutual
def uptoBulk {H : Type} : DataW H → Nat
  | .lit (.string bytes) => bytes.length + 1
  | .lit _ => 1
  | .nil => 1
  | .ptr d => uptoBulk d + 1
  | .slice elems spare => uptoBulkAll elems + uptoBulkAll spare + 1
  | .agg parts => uptoBulkAll parts + 1
  | .iface _ d => uptoBulk d + 1
  | .map entries => uptoBulkEntries entries + 1
  | .held _ => 1
def uptoBulkAll {H : Type} : List (DataW H) → Nat
  | [] => 0
  | d :: r => uptoBulk d + uptoBulkAll r
def uptoBulkEntries {H : Type} : List (Lit × DataW H) → Nat
  | [] => 0
  | x :: r => uptoBulkEntry x + uptoBulkEntries r
def uptoBulkEntry {H : Type} : Lit × DataW H → Nat
  | (.string bytes, d) => bytes.length + uptoBulk d + 1
  | (_, d) => uptoBulk d + 1
 end
def uptoSmall : (H : Type) → List (DataW H) → Bool := fun _ ds => decide (uptoBulkAll ds ≤ 1048576)
def OpenSpec.upto (s : _root_.Go.ChangeSpec) : _root_.Go.OpenSpec := { _root_.Go.OpenSpec.ofChange s with cond := some uptoSmall }

/-- 'laws.FnExactAreLinks', WHERE WHAT IT READS IS OF BULK AT MOST 1048576: true; the input reads as it did. -/
def fnExactAreLinksUptoRow : OpenClaim := { program := "ytgbfihjimbpgnaadoor", sum := "01c1da492da2c7c6092cc73c131ed567d14747c03363ebd7b02150be940e8a24", func := "loop.example/g01030/laws.FnExactAreLinks", spec := "fnExactAreLinks", inPlace := ["internal/bytealg.IndexByteString", "internal/bytealg.IndexString"], unfollowed := true, recurses := true, named := ["unicode/utf8.first", "unicode/utf8.acceptRanges", "internal/bytealg.MaxLen"], apart := false, laid := [("unicode/utf8.acceptRanges", laid_unicode_utf8_acceptRanges), ("unicode/utf8.first", laid_unicode_utf8_first)], narrowed := true }
def FnExactAreLinksUptoSaid : Prop := fnExactAreLinksUptoRow.holds Tryd.pinned (OpenSpec.upto fnExactAreLinksSpec)

/-- 'laws.FnExactParentIn', WHERE WHAT IT READS IS OF BULK AT MOST 1048576: true; the input reads as it did. -/
def fnExactParentInUptoRow : OpenClaim := { program := "ytgbfihjimbpgnaadoor", sum := "01c1da492da2c7c6092cc73c131ed567d14747c03363ebd7b02150be940e8a24", func := "loop.example/g01030/laws.FnExactParentIn", spec := "fnExactParentIn", inPlace := ["internal/bytealg.IndexByteString", "internal/bytealg.IndexString"], unfollowed := true, recurses := true, named := ["unicode/utf8.first", "unicode/utf8.acceptRanges", "internal/bytealg.MaxLen"], apart := false, laid := [("unicode/utf8.acceptRanges", laid_unicode_utf8_acceptRanges), ("unicode/utf8.first", laid_unicode_utf8_first)], narrowed := true }
def FnExactParentInUptoSaid : Prop := fnExactParentInUptoRow.holds Tryd.pinned (OpenSpec.upto fnExactParentInSpec)

/-- 'laws.FnExactMeetingIn', WHERE WHAT IT READS IS OF BULK AT MOST 1048576: true; the input reads as it did. -/
def fnExactMeetingInUptoRow : OpenClaim := { program := "ytgbfihjimbpgnaadoor", sum := "01c1da492da2c7c6092cc73c131ed567d14747c03363ebd7b02150be940e8a24", func := "loop.example/g01030/laws.FnExactMeetingIn", spec := "fnExactMeetingIn", inPlace := ["internal/bytealg.IndexByteString", "internal/bytealg.IndexString"], unfollowed := true, recurses := true, named := ["unicode/utf8.first", "unicode/utf8.acceptRanges", "internal/bytealg.MaxLen"], apart := false, laid := [("unicode/utf8.acceptRanges", laid_unicode_utf8_acceptRanges), ("unicode/utf8.first", laid_unicode_utf8_first)], narrowed := true }
def FnExactMeetingInUptoSaid : Prop := fnExactMeetingInUptoRow.holds Tryd.pinned (OpenSpec.upto fnExactMeetingInSpec)

/-- 'laws.FnExactAddLink', WHERE WHAT IT READS IS OF BULK AT MOST 1048576: true; the input reads as it did. -/
def fnExactAddLinkUptoRow : OpenClaim := { program := "ytgbfihjimbpgnaadoor", sum := "01c1da492da2c7c6092cc73c131ed567d14747c03363ebd7b02150be940e8a24", func := "loop.example/g01030/laws.FnExactAddLink", spec := "fnExactAddLink", inPlace := ["internal/bytealg.IndexByteString", "internal/bytealg.IndexString"], unfollowed := true, recurses := true, named := ["unicode/utf8.first", "unicode/utf8.acceptRanges", "internal/bytealg.MaxLen"], apart := false, laid := [("unicode/utf8.acceptRanges", laid_unicode_utf8_acceptRanges), ("unicode/utf8.first", laid_unicode_utf8_first)], narrowed := true }
def FnExactAddLinkUptoSaid : Prop := fnExactAddLinkUptoRow.holds Tryd.pinned (OpenSpec.upto fnExactAddLinkSpec)

/-- 'laws.FnExactWayUp', WHERE WHAT IT READS IS OF BULK AT MOST 1048576: true; the input reads as it did. -/
def fnExactWayUpUptoRow : OpenClaim := { program := "ytgbfihjimbpgnaadoor", sum := "01c1da492da2c7c6092cc73c131ed567d14747c03363ebd7b02150be940e8a24", func := "loop.example/g01030/laws.FnExactWayUp", spec := "fnExactWayUp", inPlace := ["internal/bytealg.IndexByteString", "internal/bytealg.IndexString"], unfollowed := true, recurses := true, named := ["unicode/utf8.first", "unicode/utf8.acceptRanges", "internal/bytealg.MaxLen"], apart := false, laid := [("unicode/utf8.acceptRanges", laid_unicode_utf8_acceptRanges), ("unicode/utf8.first", laid_unicode_utf8_first)], narrowed := true }
def FnExactWayUpUptoSaid : Prop := fnExactWayUpUptoRow.holds Tryd.pinned (OpenSpec.upto fnExactWayUpSpec)

/-- 'laws.FnExactEndLinks', WHERE WHAT IT READS IS OF BULK AT MOST 1048576: true; the input reads as it did. -/
def fnExactEndLinksUptoRow : OpenClaim := { program := "ytgbfihjimbpgnaadoor", sum := "01c1da492da2c7c6092cc73c131ed567d14747c03363ebd7b02150be940e8a24", func := "loop.example/g01030/laws.FnExactEndLinks", spec := "fnExactEndLinks", inPlace := ["internal/bytealg.IndexByteString", "internal/bytealg.IndexString"], unfollowed := true, recurses := true, named := ["unicode/utf8.first", "unicode/utf8.acceptRanges", "internal/bytealg.MaxLen"], apart := false, laid := [("unicode/utf8.acceptRanges", laid_unicode_utf8_acceptRanges), ("unicode/utf8.first", laid_unicode_utf8_first)], narrowed := true }
def FnExactEndLinksUptoSaid : Prop := fnExactEndLinksUptoRow.holds Tryd.pinned (OpenSpec.upto fnExactEndLinksSpec)

/-- 'laws.FnExactRootsIn', WHERE WHAT IT READS IS OF BULK AT MOST 1048576: true; the input reads as it did. -/
def fnExactRootsInUptoRow : OpenClaim := { program := "ytgbfihjimbpgnaadoor", sum := "01c1da492da2c7c6092cc73c131ed567d14747c03363ebd7b02150be940e8a24", func := "loop.example/g01030/laws.FnExactRootsIn", spec := "fnExactRootsIn", inPlace := ["internal/bytealg.IndexByteString", "internal/bytealg.IndexString"], unfollowed := true, recurses := true, named := ["unicode/utf8.first", "unicode/utf8.acceptRanges", "internal/bytealg.MaxLen"], apart := false, laid := [("unicode/utf8.acceptRanges", laid_unicode_utf8_acceptRanges), ("unicode/utf8.first", laid_unicode_utf8_first)], narrowed := true }
def FnExactRootsInUptoSaid : Prop := fnExactRootsInUptoRow.holds Tryd.pinned (OpenSpec.upto fnExactRootsInSpec)

end Rows
end Go.Proofs.YtgbfihjimbpgnaaDoor
