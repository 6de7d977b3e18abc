/-
  The walks of the two AreGenerics.
-/
import Derived.Test.YtdicjpkcgeofjaaGreatDoorS
namespace Go.Proofs.YtdicjpkcgeofjaaGreatDoor
open Go.RowKit

/-- At most 16 words, no two the same. -/
def firstsB (ss : List ByteArray) : Bool := (List.range ss.length).all fun i => wordB (nthS ss i) && !hasS (ss.take i) (nthS ss i)
def genericsB (ss : List ByteArray) : Bool := firstsB ss && decide (ss.length ≤ 16)
theorem firstsB_bad {ss : List ByteArray} {k : Nat} (hk : k < ss.length) (h : wordB (nthS ss k) = false ∨ hasS (ss.take k) (nthS ss k) = true) : firstsB ss = false := by
  rw [firstsB, List.all_eq_false]
  refine ⟨k, List.mem_range.2 hk, ?_⟩
  rcases h with h | h <;> simp [h]
theorem firstsB_good {ss : List ByteArray} (h : ∀ k, k < ss.length → wordB (nthS ss k) = true ∧ hasS (ss.take k) (nthS ss k) = false) : firstsB ss = true := by
  rw [firstsB, List.all_eq_true]
  intro k hk
  have := h k (List.mem_range.1 hk)
  simp [this.1, this.2]
theorem nthS_take {ss : List ByteArray} {j k : Nat} (hj : j < k) (hk : k ≤ ss.length) : nthS (ss.take k) j = nthS ss j := by
  rw [nthS_eq (by simp; omega), nthS_eq (by omega), List.getElem_take]
/-- s at k is the first of its kind: nothing before it is the same. -/
theorem first_iff {ss : List ByteArray} {k : Nat} (hk : k < ss.length) : (idxS ss (nthS ss k) = k) ↔ hasS (ss.take k) (nthS ss k) = false := by
  constructor
  · intro h
    refine hasS_none fun j hj => ?_
    have hj' : j < k := by simp at hj; omega
    rw [nthS_take hj' (by omega)]
    exact (idxS_of h).2.2 j hj'
  · intro h
    refine idxS_at hk rfl fun j hj e => ?_
    have := hasS_at (ss := ss.take k) (s := nthS ss k) (k := j) (by simp; omega) (by rw [nthS_take hj (by omega)]; exact e)
    rw [h] at this
    cases this

end Go.Proofs.YtdicjpkcgeofjaaGreatDoor
