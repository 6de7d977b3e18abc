/-
  A string in a slice of strings: where it lies first, and whether it does.
-/
import Derived.Test.YtdicjpkcgeofjaaGreatDoorT3
namespace Go.Proofs.YtdicjpkcgeofjaaGreatDoor
open Go.RowKit

/-- Where s lies first, -1 if nowhere. -/
def idxS (ss : List ByteArray) (s : ByteArray) : Int := match ss.findIdx? (fun x => x.data.toList == s.data.toList) with | some k => (k : Int) | none => -1
def hasS (ss : List ByteArray) (s : ByteArray) : Bool := decide (0 ≤ idxS ss s)
theorem eqS {a b : ByteArray} : (a.data.toList = b.data.toList) ↔ a = b := ⟨fun h => Go.WideShapes.bytes_inj h, fun h => by rw [h]⟩
theorem idxS_at {ss : List ByteArray} {s : ByteArray} {k : Nat} (hk : k < ss.length) (h : nthS ss k = s) (hp : ∀ j, j < k → nthS ss j ≠ s) : idxS ss s = k := by
  have e : ss.findIdx? (fun x => x.data.toList == s.data.toList) = some k := by
    rw [List.findIdx?_eq_some_iff_getElem]
    refine ⟨hk, ?_, fun j hj => ?_⟩
    · rw [nthS_eq hk] at h; rw [h]; simp
    · have := hp j hj
      rw [nthS_eq (by omega)] at this
      simp only [beq_iff_eq]
      exact fun h2 => this (eqS.1 h2)
  rw [idxS, e]
theorem idxS_none {ss : List ByteArray} {s : ByteArray} (hp : ∀ j, j < ss.length → nthS ss j ≠ s) : idxS ss s = -1 := by
  have e : ss.findIdx? (fun x => x.data.toList == s.data.toList) = none := by
    rw [List.findIdx?_eq_none_iff]
    intro x hx
    obtain ⟨j, hj, rfl⟩ := List.getElem_of_mem hx
    have := hp j hj
    rw [nthS_eq hj] at this
    simp only [beq_eq_false_iff_ne]
    exact fun h2 => this (eqS.1 h2)
  rw [idxS, e]
theorem idxS_lt {ss : List ByteArray} {s : ByteArray} : idxS ss s < ss.length ∧ -1 ≤ idxS ss s := by
  unfold idxS
  cases h : ss.findIdx? (fun x => x.data.toList == s.data.toList) with
  | none => exact ⟨by simp only; omega, by simp⟩
  | some k =>
    have := (List.findIdx?_eq_some_iff_getElem.1 h).1
    simp; omega
theorem idxS_of {ss : List ByteArray} {s : ByteArray} {k : Nat} (h : idxS ss s = k) : k < ss.length ∧ nthS ss k = s ∧ ∀ j, j < k → nthS ss j ≠ s := by
  unfold idxS at h
  cases h2 : ss.findIdx? (fun x => x.data.toList == s.data.toList) with
  | none => rw [h2] at h; simp only at h; omega
  | some m =>
    rw [h2] at h
    obtain rfl : m = k := by simp only at h; omega
    obtain ⟨hk, he, hp⟩ := List.findIdx?_eq_some_iff_getElem.1 h2
    refine ⟨hk, ?_, fun j hj => ?_⟩
    · rw [nthS_eq hk]; exact eqS.1 (by simpa using he)
    · have := hp j hj
      rw [nthS_eq (by omega)]
      exact fun h3 => this (by rw [h3]; simp)
theorem hasS_at {ss : List ByteArray} {s : ByteArray} {k : Nat} (hk : k < ss.length) (h : nthS ss k = s) : hasS ss s = true := by
  cases hb : hasS ss s
  · exfalso
    have : idxS ss s = -1 := by
      have := (idxS_lt (ss := ss) (s := s)).2
      simp [hasS] at hb
      omega
    unfold idxS at this
    cases h2 : ss.findIdx? (fun x => x.data.toList == s.data.toList) with
    | none =>
      have := List.findIdx?_eq_none_iff.1 h2 _ (nthS_mem hk)
      rw [h] at this
      simp at this
    | some m => rw [h2] at this; simp at this
  · rfl
theorem hasS_of {ss : List ByteArray} {s : ByteArray} (h : hasS ss s = true) : ∃ k, k < ss.length ∧ nthS ss k = s ∧ (∀ j, j < k → nthS ss j ≠ s) ∧ idxS ss s = k := by
  simp [hasS] at h
  obtain ⟨k, hk⟩ := Int.eq_ofNat_of_zero_le h
  obtain ⟨h1, h2, h3⟩ := idxS_of hk
  exact ⟨k, h1, h2, h3, hk⟩
theorem hasS_none {ss : List ByteArray} {s : ByteArray} (hp : ∀ j, j < ss.length → nthS ss j ≠ s) : hasS ss s = false := by
  rw [hasS, idxS_none hp]; rfl
theorem beqS_eq {a b : ByteArray} (h : a = b) : (a.toList == b.toList) = true := by rw [h]; simp
theorem beqS_ne {a b : ByteArray} (h : a ≠ b) : (a.toList == b.toList) = false := by
  rw [beq_eq_false_iff_ne]
  intro e
  rw [ByteArray.toList_eq, ByteArray.toList_eq] at e
  exact h (eqS.1 e)

/-- The front of a slice of strings. -/
theorem Rd.front {w : World} {a : Option Addr} {xs ys : List Value} (h : Rd w a (xs ++ ys)) : Rd w a xs := by
  rcases h with h | ⟨b, o, rfl, hb, hc⟩
  · exact .inl (List.append_eq_nil_iff.1 h).1
  · refine .inr ⟨b, o, rfl, hb, fun j u hu => hc j u ?_⟩
    rw [List.getElem?_append_left (List.getElem?_eq_some_iff.1 hu).1]
    exact hu
theorem RdS.front {w : World} {a : Option Addr} {n : Nat} {ss : List ByteArray} (h : RdS w a n ss) {k : Nat} (hk : k ≤ n) : RdS w a k (ss.take k) := by
  have hl := h.len
  have h2 := h.1.2.2
  rw [← List.take_append_drop k ss, List.flatMap_append] at h2
  exact ⟨⟨by simp; omega, Nat.le_trans hk h.le, Rd.front h2⟩, fun s hs => h.2 s (List.mem_of_mem_take hs)⟩

set_option maxHeartbeats 400000 in
theorem l03Find_any (a : Option Addr) (n c : Nat) (s : ByteArray) (ss : List ByteArray) (w : World) (hr : RdS w a n ss) :
    Calls Tryz.prog 77 #[.slice a n c, .string s] w fun e w' => e = .returned (.int .i64 (idxS ss s)) ∧ w = w' := by
  have hm := hr.le
  go_enter Tryz.func77, Tryz.ntmps77
  go_wp2
  go_loop [5] (fun i => ∃ k : Nat, k ≤ n ∧ i = .int .i64 k ∧ ∀ j, j < k → nthS ss j ≠ s) (fun i => n - (intOf i).toNat)
  case atStart => exact ⟨0, Nat.zero_le _, rfl, by simp⟩
  case round =>
    obtain ⟨k, hk, rfl, hall⟩ := hrel
    have HA := Lib.hid hall
    clear hall
    by_cases hlt : k < n
    · obtain ⟨b, o, rfl, hbl, hc⟩ := hr.at (by omega)
      have hck := hc k hlt
      clear hc
      by_cases h : nthS ss k = s
      · have HH := Lib.hid h
        have hb := beqS_eq h
        clear h
        go_wp2
        go_ret
        exact ⟨ret_int (idxS_at (by rw [hr.len]; exact hlt) HH.out HA.out).symm, rfl⟩
      · have HH := Lib.hid h
        have hb := beqS_ne h
        clear h
        go_wp2
        go_round
        case rel =>
          refine ⟨k + 1, by omega, by go_num, fun j hj => ?_⟩
          by_cases e : j = k
          · rw [e]; exact HH.out
          · exact HA.out j (by omega)
        case measure => simp [intOf]; omega
    · obtain rfl : k = n := by omega
      go_wp2
      go_ret
      exact ⟨ret_int (idxS_none (by rw [hr.len]; exact HA.out)).symm, rfl⟩

set_option maxHeartbeats 400000 in
theorem slIndex_string_any (a : Option Addr) (n c : Nat) (s : ByteArray) (ss : List ByteArray) (w : World) (hr : RdS w a n ss) :
    Calls Tryz.prog 107 #[.slice a n c, .string s] w fun e w' => e = .returned (.int .i64 (idxS ss s)) ∧ w = w' := by
  have hm := hr.le
  go_enter Tryz.func107, Tryz.ntmps107
  go_wp2
  go_loop [8] (fun i => ∃ k : Nat, k ≤ n ∧ i = .int .i64 k ∧ ∀ j, j < k → nthS ss j ≠ s) (fun i => n - (intOf i).toNat)
  case atStart => exact ⟨0, Nat.zero_le _, rfl, by simp⟩
  case round =>
    obtain ⟨k, hk, rfl, hall⟩ := hrel
    have HA := Lib.hid hall
    clear hall
    by_cases hlt : k < n
    · obtain ⟨b, o, rfl, hbl, hc⟩ := hr.at (by omega)
      have hck := hc k hlt
      clear hc
      by_cases h : nthS ss k = s
      · have HH := Lib.hid h
        have hb := beqS_eq h.symm
        clear h
        go_wp2
        go_ret
        exact ⟨ret_int (idxS_at (by rw [hr.len]; exact hlt) HH.out HA.out).symm, rfl⟩
      · have HH := Lib.hid h
        have hb := beqS_ne (fun e => h e.symm)
        clear h
        go_wp2
        go_round
        case rel =>
          refine ⟨k + 1, by omega, by go_num, fun j hj => ?_⟩
          by_cases e : j = k
          · rw [e]; exact HH.out
          · exact HA.out j (by omega)
        case measure => simp [intOf]; omega
    · obtain rfl : k = n := by omega
      go_wp2
      go_ret
      exact ⟨ret_int (idxS_none (by rw [hr.len]; exact HA.out)).symm, rfl⟩

theorem slContains_string_any (a : Option Addr) (n c : Nat) (s : ByteArray) (ss : List ByteArray) (w : World) (hr : RdS w a n ss) :
    Calls Tryz.prog 84 #[.slice a n c, .string s] w fun e w' => e = .returned (.bool (hasS ss s)) ∧ w = w' := by
  go_enter Tryz.func84, Tryz.ntmps84
  go_wp2_with (go_at_call 107; refine (slIndex_string_any _ _ _ _ _ _ hr).mono ?_; rintro e w' ⟨rfl, rfl⟩)
  go_ret
  exact ⟨ret_bool rfl, rfl⟩

end Go.Proofs.YtdicjpkcgeofjaaGreatDoor
