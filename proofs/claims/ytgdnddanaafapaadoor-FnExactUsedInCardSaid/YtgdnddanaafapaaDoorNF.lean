/-
  Spans that meet, years in spans, official names: the small functions of both sides.
-/
import Derived.Test.YtgdnddanaafapaaDoorNI
import Derived.Test.YtgdnddanaafapaaDoorFP
import Derived.Deep.QuietTactic
import Derived.BigQuiet
import Derived.Deep.RegionWith
import Derived.Deep.RegionHeld3
namespace Go.Proofs.YtgdnddanaafapaaDoor
open Go.RowKit

theorem meets_any (x y : SpanV) (w : World) :
    Calls Tryd.prog 59 #[valSpan x, valSpan y] w fun e w' => e = .returned (.bool (meetB x y)) ∧ Ext w w' := by
  obtain ⟨x0, x1⟩ := x
  obtain ⟨y0, y1⟩ := y
  simp only [valSpan]
  by_cases h1 : x0 ≤ y1 <;> by_cases h2 : y0 ≤ x1
  all_goals
    go_enter Tryd.func59, Tryd.ntmps59
    go_wp2
    go_ret
    exact ⟨by simp [meetB, *], by repeat (first | exact Ext.refl _ | apply Ext.alloc)⟩
theorem l02Meet_any (x y : SpanV) (w : World) :
    Calls Tryd.prog 55 #[valSpan x, valSpan y] w fun e w' => e = .returned (.bool (meetB x y)) ∧ Ext w w' := by
  obtain ⟨x0, x1⟩ := x
  obtain ⟨y0, y1⟩ := y
  simp only [valSpan]
  by_cases h1 : x0 ≤ y1 <;> by_cases h2 : y0 ≤ x1
  all_goals
    go_enter Tryd.func55, Tryd.ntmps55
    go_wp2
    go_ret
    exact ⟨by simp [meetB, *], by repeat (first | exact Ext.refl _ | apply Ext.alloc)⟩
theorem has_any (x : SpanV) (y : Int) (w : World) :
    Calls Tryd.prog 65 #[valSpan x, .int .i64 y] w fun e w' => e = .returned (.bool (inB y x.from_ x.to_)) ∧ Ext w w' := by
  obtain ⟨x0, x1⟩ := x
  simp only [valSpan]
  go_enter Tryd.func65, Tryd.ntmps65
  go_wp2_with (first | (go_at_call 53; refine (within_any _ _ _ _).mono ?_; rintro e w' ⟨rfl, rfl⟩))
  go_ret
  exact ⟨rfl, by repeat (first | exact Ext.refl _ | apply Ext.alloc)⟩

/-- An official name with a language. -/
def offB (x : NameV) (lang : ByteArray) : Bool := decide (x.status = 0) && decide (x.lang = lang)
theorem isOfficial_any (x : NameV) (lang : ByteArray) (w : World) :
    Calls Tryd.prog 58 #[valName x, .string lang] w fun e w' => e = .returned (.bool (offB x lang)) ∧ Ext w w' := by
  obtain ⟨x0, x1, x2, x3, x4⟩ := x
  simp only [valName]
  by_cases h1 : x2 = 0
  · subst h1
    by_cases h2 : x1 = lang
    · have hb := beqS_eq h2
      go_enter Tryd.func58, Tryd.ntmps58
      go_wp2
      go_ret
      exact ⟨by simp [offB, h2], by repeat (first | exact Ext.refl _ | apply Ext.alloc)⟩
    · have hb := beqS_ne h2
      go_enter Tryd.func58, Tryd.ntmps58
      go_wp2
      go_ret
      exact ⟨by simp [offB, h2, hb], by repeat (first | exact Ext.refl _ | apply Ext.alloc)⟩
  · have hb : (x2 == 0) = false := by simpa using h1
    go_enter Tryd.func58, Tryd.ntmps58
    go_wp2
    go_ret
    exact ⟨by simp [offB, h1, hb], by repeat (first | exact Ext.refl _ | apply Ext.alloc)⟩

end Go.Proofs.YtgdnddanaafapaaDoor
