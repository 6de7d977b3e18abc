/-
  Spans that meet, years in spans: the small functions of both sides.
-/
import Derived.Test.YtjelmidkkpchkaaGreatDoorSP
import Derived.Deep.QuietTactic
import Derived.BigQuiet
import Derived.Deep.RegionWith
import Derived.Deep.RegionHeld3
namespace Go.Proofs.YtjelmidkkpchkaaGreatDoor
open Go.RowKit

theorem meets_any (x y : SpanV) (w : World) :
    Calls Tryz.prog 197 #[valSpan x, valSpan y] w fun e w' => e = .returned (.bool (meetB x y)) ∧ Ext w w' := by
  obtain ⟨x0, x1⟩ := x
  obtain ⟨y0, y1⟩ := y
  simp only [valSpan]
  by_cases h1 : x0 ≤ y1 <;> by_cases h2 : y0 ≤ x1
  all_goals
    go_enter Tryz.func197, Tryz.ntmps197
    go_wp2
    go_ret
    exact ⟨by simp [meetB, *], by repeat (first | exact Ext.refl _ | apply Ext.alloc)⟩

theorem l02Meet_any (x y : SpanV) (w : World) :
    Calls Tryz.prog 193 #[valSpan x, valSpan y] w fun e w' => e = .returned (.bool (meetB x y)) ∧ Ext w w' := by
  obtain ⟨x0, x1⟩ := x
  obtain ⟨y0, y1⟩ := y
  simp only [valSpan]
  by_cases h1 : x0 ≤ y1 <;> by_cases h2 : y0 ≤ x1
  all_goals
    go_enter Tryz.func193, Tryz.ntmps193
    go_wp2
    go_ret
    exact ⟨by simp [meetB, *], by repeat (first | exact Ext.refl _ | apply Ext.alloc)⟩

theorem has_any (x : SpanV) (y : Int) (w : World) :
    Calls Tryz.prog 52 #[valSpan x, .int .i64 y] w fun e w' => e = .returned (.bool (inB y x.from_ x.to_)) ∧ Ext w w' := by
  obtain ⟨x0, x1⟩ := x
  simp only [valSpan]
  go_enter Tryz.func52, Tryz.ntmps52
  go_wp2_with (first | (go_at_call 49; refine (within_any _ _ _ _).mono ?_; rintro e w' ⟨rfl, rfl⟩))
  go_ret
  exact ⟨rfl, by repeat (first | exact Ext.refl _ | apply Ext.alloc)⟩

end Go.Proofs.YtjelmidkkpchkaaGreatDoor
