/-
  Answers with codes; indices that a test selects.
-/
import Derived.Test.YtjelmidkkpchkaaGreatDoorM0
namespace Go.Proofs.YtjelmidkkpchkaaGreatDoor
open Go.RowKit

/-- What is selected is an index at which the test holds. -/
theorem selN_at {n : Nat} {p : Nat → Bool} {m : Nat} (hm : m < (selN n p).length) : ∃ i, i < n ∧ p i = true ∧ nth (selN n p) m = (i : Nat) := by
  have hm' : m < ((List.range n).filter p).length := by simpa [selN] using hm
  have h := List.getElem_mem hm'
  rw [List.mem_filter, List.mem_range] at h
  refine ⟨_, h.1, h.2, ?_⟩
  rw [nth_eq hm]
  simp [selN]
/-- The first selected index at which a second test holds is the first at which both do. -/
theorem selN_first {n : Nat} {p q : Nat → Bool} {m i : Nat} (hm : m < (selN n p).length) (hi : nth (selN n p) m = (i : Nat)) (hq : q i = true) (hb : ∀ j, j < m → ∀ k : Nat, nth (selN n p) j = (k : Nat) → q k = false) :
    i < n ∧ p i = true ∧ ∀ j, j < i → (p j && q j) = false := by
  have hm' : m < ((List.range n).filter p).length := by simpa [selN] using hm
  have gi : ∀ j (hj : j < ((List.range n).filter p).length), nth (selN n p) j = (((List.range n).filter p)[j] : Nat) := fun j hj => by
    rw [nth_eq (by simpa [selN] using hj)]; simp [selN]
  have hfind : ((List.range n).filter p).find? q = some i := by
    rw [List.find?_eq_some_iff_getElem]
    refine ⟨hq, m, hm', ?_, fun j hj => ?_⟩
    · have := gi m hm'
      rw [hi] at this
      exact (Int.ofNat.inj this).symm
    · rw [hb j hj _ (gi j (by omega))]; rfl
  rw [List.find?_filter, List.find?_range_eq_some] at hfind
  obtain ⟨h1, h2, h3⟩ := hfind
  simp only [decide_eq_true_eq] at h1
  refine ⟨List.mem_range.1 h2, by simpa using h1.1, fun j hj => ?_⟩
  have := h3 j hj
  cases hp : p j <;> cases hq : q j <;> simp_all
theorem selN_none {n : Nat} {p q : Nat → Bool} (hb : ∀ j, j < (selN n p).length → ∀ k : Nat, nth (selN n p) j = (k : Nat) → q k = false) : ∀ j, j < n → (p j && q j) = false := by
  intro j hj
  cases hp : p j
  · rfl
  · have hmem : j ∈ (List.range n).filter p := List.mem_filter.2 ⟨List.mem_range.2 hj, hp⟩
    obtain ⟨m, hm, he⟩ := List.getElem_of_mem hmem
    rw [hb m (by simpa [selN] using hm) j (by rw [nth_eq (by simpa [selN] using hm)]; simp [selN, he]), Bool.and_false]

theorem Ext.drewN {a b : World} (h : Ext a b) (n : Nat) : Ext a (b.drewN n) := h.trans ((Still.refl b).drewN n).ext


end Go.Proofs.YtjelmidkkpchkaaGreatDoor
