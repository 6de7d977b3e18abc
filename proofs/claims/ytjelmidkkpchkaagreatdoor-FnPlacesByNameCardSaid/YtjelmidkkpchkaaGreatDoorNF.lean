/-
  Spans that meet, years in spans, official names: the small functions of both sides.
-/
import Derived.Test.YtjelmidkkpchkaaGreatDoorNI
import Derived.Test.YtjelmidkkpchkaaGreatDoorSM
import Derived.Test.YtjelmidkkpchkaaGreatDoorM0
import Derived.Deep.QuietTactic
import Derived.BigQuiet
import Derived.Deep.RegionWith
import Derived.Deep.RegionHeld3
namespace Go.Proofs.YtjelmidkkpchkaaGreatDoor
open Go.RowKit

/-- An official name with a language. -/
def offB (x : NameV) (lang : ByteArray) : Bool := decide (x.status = 0) && decide (x.lang = lang)
theorem isOfficial_any (x : NameV) (lang : ByteArray) (w : World) :
    Calls Tryz.prog 196 #[valName x, .string lang] w fun e w' => e = .returned (.bool (offB x lang)) ∧ Ext w w' := by
  obtain ⟨x0, x1, x2, x3, x4⟩ := x
  simp only [valName]
  by_cases h1 : x2 = 0
  · subst h1
    by_cases h2 : x1 = lang
    · have hb := beqS_eq h2
      go_enter Tryz.func196, Tryz.ntmps196
      go_wp2
      go_ret
      exact ⟨by simp [offB, h2], by repeat (first | exact Ext.refl _ | apply Ext.alloc)⟩
    · have hb := beqS_ne h2
      go_enter Tryz.func196, Tryz.ntmps196
      go_wp2
      go_ret
      exact ⟨by simp [offB, h2], by repeat (first | exact Ext.refl _ | apply Ext.alloc)⟩
  · have hb : (x2 == 0) = false := by simpa using h1
    go_enter Tryz.func196, Tryz.ntmps196
    go_wp2
    go_ret
    exact ⟨by simp [offB, h1], by repeat (first | exact Ext.refl _ | apply Ext.alloc)⟩

end Go.Proofs.YtjelmidkkpchkaaGreatDoor
