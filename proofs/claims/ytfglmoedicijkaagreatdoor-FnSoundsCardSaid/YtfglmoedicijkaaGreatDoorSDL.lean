/-
  The laws of sounds (plain): words that sound alike begin alike; a word is in the list of matches where it sounds alike; every word is in exactly one group.
-/
import Derived.Test.YtfglmoedicijkaaGreatDoorSO3
import Derived.Test.YtfglmoedicijkaaGreatDoorGP
namespace Go.Proofs.YtfglmoedicijkaaGreatDoor

theorem app_head {xs ys : List UInt8} (h : 0 < xs.length) : (xs ++ ys)[0]? = xs[0]? := List.getElem?_append_left h
/-- A sound begins with its word's first letter. -/
theorem sndT_first {t : List Int} {s : ByteArray} (hs : 0 < s.size) : ∀ k, (sndT t s k).data.toList[0]? = s.data.toList[0]?
  | 0 => by
    rw [sndT, ByteArray.data_extract, Array.toList_extract, List.extract_eq_take_drop, List.drop_zero, List.getElem?_take_of_lt (by omega)]
  | k + 1 => by
    have ih := sndT_first (t := t) hs k
    have h1 := (sndT_size (t := t) hs k).1
    rw [sndT]
    split
    · rw [ByteArray.data_append, Array.toList_append, app_head (Nat.lt_of_lt_of_le Nat.zero_lt_one h1)]; exact ih
    · exact ih
theorem soundT_first {t : List Int} {s : ByteArray} (hs : 0 < s.size) : (soundT t s).data.toList[0]? = s.data.toList[0]? := by
  have h1 := (sndT_size (t := t) hs (s.size - 1)).1
  rw [soundT, padT, ByteArray.data_append, Array.toList_append, app_head (Nat.lt_of_lt_of_le Nat.zero_lt_one h1)]
  exact sndT_first hs _
theorem alike_first {t : List Int} {a b : ByteArray} (ha : 0 < a.size) (hb : 0 < b.size) (h : ((soundT t a).toList == (soundT t b).toList) = true) : a[0] = b[0] := by
  rw [beq_iff_eq, ByteArray.toList_eq, ByteArray.toList_eq] at h
  have e : a.data.toList[0]? = b.data.toList[0]? := by rw [← soundT_first (t := t) ha, ← soundT_first (t := t) hb, h]
  have e1 : a.data.toList[0]? = some a[0] := by rw [List.getElem?_eq_getElem (by simpa using ha)]; rfl
  have e2 : b.data.toList[0]? = some b[0] := by rw [List.getElem?_eq_getElem (by simpa using hb)]; rfl
  rw [e1, e2] at e
  exact Option.some.inj e
/-- What the walk asks of two words that sound alike. -/
theorem alike_law {t : List Int} {a b : ByteArray} (h0 : codeS t [a] b = 0) (h : alB t a b = true) : ∃ (ha : 0 < a.size) (hb : 0 < b.size), a[0] = b[0] := by
  obtain ⟨_, h1, h2, _⟩ := codeS_zero h0
  have h3 : wordB a = true := by simpa [wordsB] using h2
  have ha : 0 < a.size := by have := (wordB_size h3).1; omega
  have hb : 0 < b.size := by have := (wordB_size h1).1; omega
  rw [alB, if_pos h0] at h
  exact ⟨ha, hb, alike_first ha hb h⟩
theorem selN_has {n : Nat} {p : Nat → Bool} {i : Nat} (hi : i < n) : hasI (selN n p) i = p i := by
  rw [hasI, Bool.eq_iff_iff, List.contains_iff_mem, selN]
  simp only [List.mem_map, List.mem_filter, List.mem_range]
  constructor
  · rintro ⟨j, ⟨_, h⟩, e⟩
    obtain rfl : j = i := by omega
    exact h
  · intro h
    exact ⟨i, ⟨hi, h⟩, rfl⟩
theorem match_law {t : List Int} {ls : List ByteArray} {s : ByteArray} (h : codeS t ls s = 0) {i : Nat} (hi : i < ls.length) : codeS t [nthS ls i] s = 0 ∧ alB t (nthS ls i) s = hasI (msL t ls s) i := by
  obtain ⟨h0, h1, h2, _⟩ := codeS_zero h
  have hc : codeS t [nthS ls i] s = 0 := codeS_ok h0 h1 (by simpa [wordsB] using wordsB_at h2 hi) (by simp)
  refine ⟨hc, ?_⟩
  rw [alB, if_pos hc, msL, if_pos h, selN_has hi, msP]

/-! Groups. -/
def gbF (t : List Int) (ls : List ByteArray) (i : Nat) : List UInt8 := (soundT t (nthS ls i)).toList
def gbL (t : List Int) (ls : List ByteArray) : List (List Int) := if codeS t ls ⟨#[97]⟩ = 0 then grps (gbF t ls) ls.length ls.length else []
def totL (zss : List (List Int)) : Nat := (zss.map List.length).sum
theorem gb_sum {t : List Int} {ls : List ByteArray} (h : codeS t ls ⟨#[97]⟩ = 0) : totL (gbL t ls) = ls.length := by
  rw [gbL, if_pos h, totL, grps_sum]
end Go.Proofs.YtfglmoedicijkaaGreatDoor
