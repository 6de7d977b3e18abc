/-
  The walks of the two functions on tables of sounds.
-/
import Derived.Test.YtfglmoedicijkaaGreatDoorC
namespace Go.Proofs.YtfglmoedicijkaaGreatDoor
open Go.RowKit

/-- A table of sounds: 26 numbers from 0 to 9. -/
def soundB (zs : List Int) : Bool := (zs.length == 26) && allIn zs 0 9

set_option maxHeartbeats 400000 in
theorem implIsSoundTable_any (a : Option Addr) (n c : Nat) (zs : List Int) (w : World) (hr : RdI w a n zs) :
    Calls Tryz.prog 22 #[.slice a n c] w fun e w' => e = .returned (.bool (soundB zs)) ∧ w = w' := by
  have hm := hr.le
  cases h : ((n : Int) == 26)
  · have HH := Lib.hid h
    have hs : soundB zs = false := by
      rw [soundB, hr.len]
      have : (n == 26) = false := by simp at h; simp; omega
      rw [this]; rfl
    have HS := Lib.hid hs
    clear hs
    go_enter Tryz.func22, Tryz.ntmps22
    go_wp2_with (first | (go_at_call 55; refine (areWithin_any _ _ _ _ _ _ _ hr).mono ?_; rintro e w' ⟨rfl, rfl⟩))
    go_ret
    exact ⟨ret_bool HS.out.symm, rfl⟩
  · have HH := Lib.hid h
    have hs : soundB zs = allIn zs 0 9 := by
      rw [soundB, hr.len]
      have : (n == 26) = true := by simp at h; simp; omega
      rw [this]; rfl
    have HS := Lib.hid hs
    clear hs
    go_enter Tryz.func22, Tryz.ntmps22
    go_wp2_with (first | (go_at_call 55; refine (areWithin_any _ _ _ _ _ _ _ hr).mono ?_; rintro e w' ⟨rfl, rfl⟩))
    go_ret
    exact ⟨ret_bool HS.out.symm, rfl⟩

set_option maxHeartbeats 400000 in
theorem specIsSoundTable_any (a : Option Addr) (n c : Nat) (zs : List Int) (w : World) (hr : RdI w a n zs) :
    Calls Tryz.prog 23 #[.slice a n c] w fun e w' => e = .returned (.bool (soundB zs)) ∧ w = w' := by
  have hm := hr.le
  go_enter Tryz.func23, Tryz.ntmps23
  go_wp2
  go_loop [3] (fun i => ∃ k : Nat, k ≤ n ∧ i = .int .i64 k ∧ ∀ j, j < k → inB (nth zs j) 0 9 = true) (fun i => n - (intOf i).toNat)
  case atStart => exact ⟨0, Nat.zero_le _, rfl, by simp⟩
  case round =>
    obtain ⟨k, hk, rfl, hall⟩ := hrel
    have HA := Lib.hid hall
    clear hall
    by_cases hlt : k < n
    · obtain ⟨b, o, rfl, hbl, hc⟩ := hr.at (by omega)
      have hck := hc k hlt
      clear hc
      cases h : inB (nth zs k) 0 9
      all_goals
        have HH := Lib.hid h
        clear h
        go_wp2_with (go_at_call 56; refine (l01In_any _ _ _ _).mono ?_; rintro e w' ⟨rfl, rfl⟩; rw [HH.out])
      · go_ret
        exact ⟨ret_bool (by rw [soundB, allIn_false (by rw [hr.len]; exact hlt) HH.out, Bool.and_false]), rfl⟩
      · go_round
        case rel =>
          refine ⟨k + 1, by omega, by go_num, fun j hj => ?_⟩
          by_cases e : j = k
          · rw [e, HH.out]
          · exact HA.out j (by omega)
        case measure => simp [intOf]; omega
    · obtain rfl : k = n := by omega
      have hs : soundB zs = ((k : Int) == 26) := by
        rw [soundB, allIn_true (by rw [hr.len]; exact HA.out), hr.len, Bool.and_true]
        rw [Bool.eq_iff_iff]; simp; omega
      have HS := Lib.hid hs
      clear hs
      go_wp2
      go_ret
      exact ⟨ret_bool (by rw [HS.out]), rfl⟩

end Go.Proofs.YtfglmoedicijkaaGreatDoor
