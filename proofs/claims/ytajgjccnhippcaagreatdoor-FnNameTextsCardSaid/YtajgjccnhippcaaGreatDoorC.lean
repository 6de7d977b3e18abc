/-
  Small functions on ints and slices of ints: bounds, a search, copies.
-/
import Derived.Test.YtajgjccnhippcaaGreatDoorB
namespace Go.Proofs.YtajgjccnhippcaaGreatDoor
open Go.RowKit

theorem within_any (x lo hi : Int) (w : World) :
    Calls Tryz.prog 97 #[.int .i64 x, .int .i64 lo, .int .i64 hi] w fun e w' => e = .returned (.bool (inB x lo hi)) ∧ w = w' := by
  by_cases h1 : lo ≤ x <;> by_cases h2 : x ≤ hi
  all_goals
    go_enter Tryz.func97, Tryz.ntmps97
    go_wp2
    go_ret
    exact ⟨by simp [inB, *], rfl⟩

theorem l01In_any (x lo hi : Int) (w : World) :
    Calls Tryz.prog 116 #[.int .i64 x, .int .i64 lo, .int .i64 hi] w fun e w' => e = .returned (.bool (inB x lo hi)) ∧ w = w' := by
  by_cases h1 : lo ≤ x <;> by_cases h2 : x ≤ hi
  all_goals
    go_enter Tryz.func116, Tryz.ntmps116
    go_wp2
    go_ret
    exact ⟨by simp [inB, *], rfl⟩

end Go.Proofs.YtajgjccnhippcaaGreatDoor
