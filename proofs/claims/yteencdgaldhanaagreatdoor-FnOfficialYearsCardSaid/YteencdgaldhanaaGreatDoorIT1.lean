/-
  cmp.Compare at int64; the insertion sort of the library at spans, by a comparison of where they begin.
-/
import Derived.Test.YteencdgaldhanaaGreatDoorSP
import Derived.Test.YteencdgaldhanaaGreatDoorM0
import Derived.Test.YteencdgaldhanaaGreatDoorINS
namespace Go.Proofs.YteencdgaldhanaaGreatDoor
open Go.RowKit

/-- Spans in memory. -/
def laySp : Lay SpanV where
  cells x := [.int .i64 x.from_, .int .i64 x.to_]
  sz := 2
  len _ := rfl
  one _ u hu := by simp at hu; rcases hu with rfl | rfl <;> rfl
  pos := by decide

def cmpI (a b : Int) : Int := if a < b then -1 else if b < a then 1 else 0
theorem isNaN_any (a : Int) (w : World) : Calls Tryz.prog 114 #[.int .i64 a] w fun e w' => e = .returned (.bool false) ∧ w = w' := by
  go_enter Tryz.func114, Tryz.ntmps114
  go_wp2
  go_ret
  exact ⟨rfl, rfl⟩
theorem compare_any (a b : Int) (w : World) : Calls Tryz.prog 86 #[.int .i64 a, .int .i64 b] w fun e w' => e = .returned (.int .i64 (cmpI a b)) ∧ w = w' := by
  by_cases h1 : a < b
  · have e : cmpI a b = -1 := if_pos h1
    go_enter Tryz.func86, Tryz.ntmps86
    go_wp2_with (go_at_call 114; refine (isNaN_any _ _).mono ?_; rintro e w' ⟨rfl, rfl⟩)
    go_ret
    exact ⟨ret_int e.symm, rfl⟩
  · by_cases h2 : b < a
    · have e : cmpI a b = 1 := by rw [cmpI, if_neg h1, if_pos h2]
      go_enter Tryz.func86, Tryz.ntmps86
      go_wp2_with (go_at_call 114; refine (isNaN_any _ _).mono ?_; rintro e w' ⟨rfl, rfl⟩)
      go_ret
      exact ⟨ret_int e.symm, rfl⟩
    · have e : cmpI a b = 0 := by rw [cmpI, if_neg h1, if_neg h2]
      go_enter Tryz.func86, Tryz.ntmps86
      go_wp2_with (go_at_call 114; refine (isNaN_any _ _).mono ?_; rintro e w' ⟨rfl, rfl⟩)
      go_ret
      exact ⟨ret_int e.symm, rfl⟩
theorem byFrom_any (x y : SpanV) (w : World) : Calls Tryz.prog 85 #[valSpan x, valSpan y] w fun e w' => e = .returned (.int .i64 (cmpI x.from_ y.from_)) ∧ Ext w w' := by
  obtain ⟨x0, x1⟩ := x
  obtain ⟨y0, y1⟩ := y
  simp only [valSpan]
  go_enter Tryz.func85, Tryz.ntmps85
  go_wp2_with fail
  refine (compare_any _ _ _).mono ?_
  rintro e w' ⟨rfl, rfl⟩
  go_wp2
  go_ret
  exact ⟨rfl, ((Ext.refl _).alloc _).alloc _⟩

end Go.Proofs.YteencdgaldhanaaGreatDoor
