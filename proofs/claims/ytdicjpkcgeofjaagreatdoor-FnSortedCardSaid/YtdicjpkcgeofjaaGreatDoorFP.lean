/-
  The first place at which a test holds (plain).
-/
import Derived.Test.YtdicjpkcgeofjaaGreatDoorS
namespace Go.Proofs.YtdicjpkcgeofjaaGreatDoor

def idxP {α : Type} (p : α → Bool) (xs : List α) : Int := match xs.findIdx? p with | some k => (k : Int) | none => -1
def anyP {α : Type} (p : α → Bool) (xs : List α) : Bool := decide (0 ≤ idxP p xs)
theorem idxP_at {α : Type} {p : α → Bool} {xs : List α} {k : Nat} (hk : k < xs.length) (h : p xs[k] = true) (hp : ∀ j (hj : j < xs.length), j < k → p xs[j] = false) : idxP p xs = k := by
  have e : xs.findIdx? p = some k := by
    rw [List.findIdx?_eq_some_iff_getElem]
    exact ⟨hk, h, fun j hj => by rw [hp j (by omega) hj]; decide⟩
  rw [idxP, e]
theorem idxP_none {α : Type} {p : α → Bool} {xs : List α} (hp : ∀ j (hj : j < xs.length), p xs[j] = false) : idxP p xs = -1 := by
  have e : xs.findIdx? p = none := by
    rw [List.findIdx?_eq_none_iff]
    intro x hx
    obtain ⟨j, hj, rfl⟩ := List.getElem_of_mem hx
    exact hp j hj
  rw [idxP, e]
theorem idxP_cases {α : Type} (p : α → Bool) (xs : List α) : (idxP p xs = -1 ∧ ∀ j (hj : j < xs.length), p xs[j] = false) ∨ ∃ k, ∃ hk : k < xs.length, idxP p xs = (k : Nat) ∧ p xs[k] = true ∧ ∀ j (hj : j < xs.length), j < k → p xs[j] = false := by
  cases h : xs.findIdx? p with
  | none => exact .inl ⟨by rw [idxP, h], fun j hj => List.findIdx?_eq_none_iff.1 h _ (List.getElem_mem hj)⟩
  | some k =>
    obtain ⟨hk, he, hp⟩ := List.findIdx?_eq_some_iff_getElem.1 h
    exact .inr ⟨k, hk, by rw [idxP, h], he, fun j hj hjk => by simpa using hp j hjk⟩
theorem anyP_none {α : Type} {p : α → Bool} {xs : List α} (hp : ∀ j (hj : j < xs.length), p xs[j] = false) : anyP p xs = false := by rw [anyP, idxP_none hp]; rfl
theorem anyP_at {α : Type} {p : α → Bool} {xs : List α} {k : Nat} (hk : k < xs.length) (h : p xs[k] = true) : anyP p xs = true := by
  rcases idxP_cases p xs with ⟨_, h2⟩ | ⟨m, _, h1, _⟩
  · rw [h2 k hk] at h; cases h
  · rw [anyP, h1]; simp
theorem anyP_of {α : Type} {p : α → Bool} {xs : List α} (h : anyP p xs = true) : ∃ k, ∃ hk : k < xs.length, idxP p xs = (k : Nat) ∧ p xs[k] = true := by
  rcases idxP_cases p xs with ⟨h1, _⟩ | ⟨m, hm, h1, h2, _⟩
  · rw [anyP, h1] at h; cases h
  · exact ⟨m, hm, h1, h2⟩
theorem anyP_not {α : Type} {p : α → Bool} {xs : List α} (h : anyP p xs = false) : idxP p xs = -1 ∧ ∀ j (hj : j < xs.length), p xs[j] = false := by
  rcases idxP_cases p xs with h1 | ⟨m, hm, h1, _⟩
  · exact h1
  · rw [anyP, h1] at h; simp at h

end Go.Proofs.YtdicjpkcgeofjaaGreatDoor
