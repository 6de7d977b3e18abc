/-
  The indices of the names used in a year.
-/
import Derived.Test.YteencdgaldhanaaGreatDoorNU
namespace Go.Proofs.YteencdgaldhanaaGreatDoor
open Go.RowKit

def usedX (xs : List NameV) (y : Int) : List Nat := (List.range xs.length).filter (hasY xs y)
theorem usedX_get {xs : List NameV} {y : Int} {m : Nat} (hm : m < (usedX xs y).length) : nth (usedL xs y) m = ((usedX xs y)[m] : Nat) ∧ (usedX xs y)[m] < xs.length := by
  have h := List.getElem_mem hm
  refine ⟨?_, ?_⟩
  · rw [nth_eq (by simpa [usedL, selN, usedX] using hm)]
    simp [usedL, selN, usedX]
  · have h2 := (List.mem_filter.1 h).1
    exact List.mem_range.1 h2
theorem usedX_has {xs : List NameV} {y : Int} {m : Nat} (hm : m < (usedX xs y).length) : hasY xs y (usedX xs y)[m] = true := (List.mem_filter.1 (List.getElem_mem hm)).2
theorem usedX_len (xs : List NameV) (y : Int) : (usedL xs y).length = (usedX xs y).length := by simp [usedL, selN, usedX]

end Go.Proofs.YteencdgaldhanaaGreatDoor
