/-
  The statements' helpers on texts.
-/
import Derived.Test.YtfglmoedicijkaaGreatDoorT2
import Derived.Deep.QuietTactic
import Derived.BigQuiet
namespace Go.Proofs.YtfglmoedicijkaaGreatDoor
open Go.RowKit

set_option maxHeartbeats 400000 in
theorem likeTexts_same (a b : Option Addr) (n c c' : Nat) (ss : List ByteArray) (w : World) (ha : RdS w a n ss) (hb : RdS w b n ss) :
    Calls Tryz.prog 33 #[.slice a n c, .slice b n c'] w fun e w' => e = .returned (.bool true) ∧ Still w w' := by
  have hm := ha.le
  go_enter Tryz.func33, Tryz.ntmps33
  go_wp2
  go_loopw [5] (fun i wr => ∃ k : Nat, k ≤ n ∧ i = .int .i64 k ∧ Still w wr) (fun i _ => n - (intOf i).toNat)
  case atStart => exact ⟨0, Nat.zero_le _, rfl, Still.refl _⟩
  case round =>
    obtain ⟨k, hk, rfl, hs⟩ := hrel
    by_cases hlt : k < n
    · obtain ⟨b1, o1, rfl, hbl1, hc1⟩ := (ha.ext hs.ext).at (by omega)
      obtain ⟨b2, o2, rfl, hbl2, hc2⟩ := (hb.ext hs.ext).at (by omega)
      have hk1 := hc1 k hlt
      have hk2 := hc2 k hlt
      clear hc1 hc2
      have hki : (k : Int) < n := by omega
      go_wp2
      go_quiet (fail)
      go_wp2
      go_roundw
      case rel => exact ⟨k + 1, by omega, by go_num, hs.drewN _⟩
      case measure => simp [intOf]; omega
    · obtain rfl : k = n := by omega
      go_wp2
      go_ret
      exact ⟨rfl, hs⟩

def hasT (ss : List ByteArray) (s : ByteArray) : Bool := ss.any fun x => x.toList == s.toList
theorem hasT_at {ss : List ByteArray} {s : ByteArray} {k : Nat} (hk : k < ss.length) (h : ((nthS ss k).toList == s.toList) = true) : hasT ss s = true :=
  List.any_eq_true.2 ⟨nthS ss k, nthS_mem hk, h⟩
theorem hasT_no {ss : List ByteArray} {s : ByteArray} (h : ∀ k, k < ss.length → ((nthS ss k).toList == s.toList) = false) : hasT ss s = false := by
  rw [hasT, List.any_eq_false]
  intro x hx
  obtain ⟨k, hk, rfl⟩ := List.getElem_of_mem hx
  have := h k hk
  rw [nthS_eq hk] at this
  rw [this]
  decide
set_option maxHeartbeats 400000 in
theorem hasText_any (a : Option Addr) (n c : Nat) (s : ByteArray) (ss : List ByteArray) (w : World) (hr : RdS w a n ss) :
    Calls Tryz.prog 36 #[.slice a n c, .string s] w fun e w' => e = .returned (.bool (hasT ss s)) ∧ w = w' := by
  have hm := hr.le
  have hln := hr.len
  go_enter Tryz.func36, Tryz.ntmps36
  go_wp2
  go_loopw [5] (fun i wr => ∃ k : Nat, k ≤ n ∧ i = .int .i64 k ∧ w = wr ∧ (∀ j, j < k → ((nthS ss j).toList == s.toList) = false)) (fun i _ => n - (intOf i).toNat)
  case atStart => exact ⟨0, Nat.zero_le _, rfl, rfl, fun j hj => by omega⟩
  case round =>
    obtain ⟨k, hk, rfl, rfl, hp⟩ := hrel
    have HP := Lib.hid hp
    clear hp
    by_cases hlt : k < n
    · obtain ⟨b1, o1, rfl, hbl1, hc1⟩ := hr.at (by omega)
      have hk1 := hc1 k hlt
      clear hc1
      have hki : (k : Int) < n := by omega
      cases he : ((nthS ss k).toList == s.toList)
      · go_wp2
        go_roundw
        case rel => exact ⟨k + 1, by omega, by go_num, trivial, fun j hj => by
          by_cases e : j = k
          · rw [e]; exact he
          · exact HP.out j (by omega)⟩
        case measure => simp [intOf]; omega
      · have HE := Lib.hid (hasT_at (ss := ss) (by omega) he)
        go_wp2
        go_ret
        exact ⟨by rw [HE.out]; rfl, rfl⟩
    · obtain rfl : k = n := by omega
      have HE := Lib.hid (hasT_no (ss := ss) (s := s) fun j hj => HP.out j (by omega))
      go_wp2
      go_ret
      exact ⟨by rw [HE.out]; rfl, rfl⟩

theorem hasT_mem {ss : List ByteArray} {s : ByteArray} : hasT ss s = true ↔ s ∈ ss := by
  rw [hasT, List.any_eq_true]
  constructor
  · rintro ⟨x, hx, e⟩
    rw [beq_iff_eq, ByteArray.toList_eq, ByteArray.toList_eq] at e
    rwa [← Go.WideShapes.bytes_inj e]
  · intro h
    exact ⟨s, h, by simp⟩

end Go.Proofs.YtfglmoedicijkaaGreatDoor
