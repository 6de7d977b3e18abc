/-
  A string in a slice of strings: where it lies first, and whether it does.
-/
import Derived.Test.YtfglmoedicijkaaGreatDoorT3
namespace Go.Proofs.YtfglmoedicijkaaGreatDoor
open Go.RowKit

/-- Where s lies first, -1 if nowhere. -/
def idxS (ss : List ByteArray) (s : ByteArray) : Int := match ss.findIdx? (fun x => x.data.toList == s.data.toList) with | some k => (k : Int) | none => -1
def hasS (ss : List ByteArray) (s : ByteArray) : Bool := decide (0 ≤ idxS ss s)
theorem eqS {a b : ByteArray} : (a.data.toList = b.data.toList) ↔ a = b := ⟨fun h => Go.WideShapes.bytes_inj h, fun h => by rw [h]⟩
theorem idxS_at {ss : List ByteArray} {s : ByteArray} {k : Nat} (hk : k < ss.length) (h : nthS ss k = s) (hp : ∀ j, j < k → nthS ss j ≠ s) : idxS ss s = k := by
  have e : ss.findIdx? (fun x => x.data.toList == s.data.toList) = some k := by
    rw [List.findIdx?_eq_some_iff_getElem]
    refine ⟨hk, ?_, fun j hj => ?_⟩
    · rw [nthS_eq hk] at h; rw [h]; simp
    · have := hp j hj
      rw [nthS_eq (by omega)] at this
      simp only [beq_iff_eq]
      exact fun h2 => this (eqS.1 h2)
  rw [idxS, e]
theorem idxS_none {ss : List ByteArray} {s : ByteArray} (hp : ∀ j, j < ss.length → nthS ss j ≠ s) : idxS ss s = -1 := by
  have e : ss.findIdx? (fun x => x.data.toList == s.data.toList) = none := by
    rw [List.findIdx?_eq_none_iff]
    intro x hx
    obtain ⟨j, hj, rfl⟩ := List.getElem_of_mem hx
    have := hp j hj
    rw [nthS_eq hj] at this
    simp only [beq_eq_false_iff_ne]
    exact fun h2 => this (eqS.1 h2)
  rw [idxS, e]
theorem idxS_lt {ss : List ByteArray} {s : ByteArray} : idxS ss s < ss.length ∧ -1 ≤ idxS ss s := by
  unfold idxS
  cases h : ss.findIdx? (fun x => x.data.toList == s.data.toList) with
  | none => exact ⟨by simp only; omega, by simp⟩
  | some k =>
    have := (List.findIdx?_eq_some_iff_getElem.1 h).1
    simp; omega
theorem idxS_of {ss : List ByteArray} {s : ByteArray} {k : Nat} (h : idxS ss s = k) : k < ss.length ∧ nthS ss k = s ∧ ∀ j, j < k → nthS ss j ≠ s := by
  unfold idxS at h
  cases h2 : ss.findIdx? (fun x => x.data.toList == s.data.toList) with
  | none => rw [h2] at h; simp only at h; omega
  | some m =>
    rw [h2] at h
    obtain rfl : m = k := by simp only at h; omega
    obtain ⟨hk, he, hp⟩ := List.findIdx?_eq_some_iff_getElem.1 h2
    refine ⟨hk, ?_, fun j hj => ?_⟩
    · rw [nthS_eq hk]; exact eqS.1 (by simpa using he)
    · have := hp j hj
      rw [nthS_eq (by omega)]
      exact fun h3 => this (by rw [h3]; simp)
theorem hasS_at {ss : List ByteArray} {s : ByteArray} {k : Nat} (hk : k < ss.length) (h : nthS ss k = s) : hasS ss s = true := by
  cases hb : hasS ss s
  · exfalso
    have : idxS ss s = -1 := by
      have := (idxS_lt (ss := ss) (s := s)).2
      simp [hasS] at hb
      omega
    unfold idxS at this
    cases h2 : ss.findIdx? (fun x => x.data.toList == s.data.toList) with
    | none =>
      have := List.findIdx?_eq_none_iff.1 h2 _ (nthS_mem hk)
      rw [h] at this
      simp at this
    | some m => rw [h2] at this; simp at this
  · rfl
theorem hasS_of {ss : List ByteArray} {s : ByteArray} (h : hasS ss s = true) : ∃ k, k < ss.length ∧ nthS ss k = s ∧ (∀ j, j < k → nthS ss j ≠ s) ∧ idxS ss s = k := by
  simp [hasS] at h
  obtain ⟨k, hk⟩ := Int.eq_ofNat_of_zero_le h
  obtain ⟨h1, h2, h3⟩ := idxS_of hk
  exact ⟨k, h1, h2, h3, hk⟩
theorem hasS_none {ss : List ByteArray} {s : ByteArray} (hp : ∀ j, j < ss.length → nthS ss j ≠ s) : hasS ss s = false := by
  rw [hasS, idxS_none hp]; rfl
theorem beqS_eq {a b : ByteArray} (h : a = b) : (a.toList == b.toList) = true := by rw [h]; simp
theorem beqS_ne {a b : ByteArray} (h : a ≠ b) : (a.toList == b.toList) = false := by
  rw [beq_eq_false_iff_ne]
  intro e
  rw [ByteArray.toList_eq, ByteArray.toList_eq] at e
  exact h (eqS.1 e)

/-- The front of a slice of strings. -/
theorem Rd.front {w : World} {a : Option Addr} {xs ys : List Value} (h : Rd w a (xs ++ ys)) : Rd w a xs := by
  rcases h with h | ⟨b, o, rfl, hb, hc⟩
  · exact .inl (List.append_eq_nil_iff.1 h).1
  · refine .inr ⟨b, o, rfl, hb, fun j u hu => hc j u ?_⟩
    rw [List.getElem?_append_left (List.getElem?_eq_some_iff.1 hu).1]
    exact hu
theorem RdS.front {w : World} {a : Option Addr} {n : Nat} {ss : List ByteArray} (h : RdS w a n ss) {k : Nat} (hk : k ≤ n) : RdS w a k (ss.take k) := by
  have hl := h.len
  have h2 := h.1.2.2
  rw [← List.take_append_drop k ss, List.flatMap_append] at h2
  exact ⟨⟨by simp; omega, Nat.le_trans hk h.le, Rd.front h2⟩, fun s hs => h.2 s (List.mem_of_mem_take hs)⟩

end Go.Proofs.YtfglmoedicijkaaGreatDoor
