/-
  Small functions on ints and slices of ints: bounds, a search, copies.
-/
import Derived.Test.YtfglmoedicijkaaGreatDoorB
namespace Go.Proofs.YtfglmoedicijkaaGreatDoor
open Go.RowKit

theorem within_any (x lo hi : Int) (w : World) :
    Calls Tryz.prog 80 #[.int .i64 x, .int .i64 lo, .int .i64 hi] w fun e w' => e = .returned (.bool (inB x lo hi)) ∧ w = w' := by
  by_cases h1 : lo ≤ x <;> by_cases h2 : x ≤ hi
  all_goals
    go_enter Tryz.func80, Tryz.ntmps80
    go_wp2
    go_ret
    exact ⟨by simp [inB, *], rfl⟩

theorem l01In_any (x lo hi : Int) (w : World) :
    Calls Tryz.prog 56 #[.int .i64 x, .int .i64 lo, .int .i64 hi] w fun e w' => e = .returned (.bool (inB x lo hi)) ∧ w = w' := by
  by_cases h1 : lo ≤ x <;> by_cases h2 : x ≤ hi
  all_goals
    go_enter Tryz.func56, Tryz.ntmps56
    go_wp2
    go_ret
    exact ⟨by simp [inB, *], rfl⟩

set_option maxHeartbeats 400000 in
theorem areWithin_any (a : Option Addr) (n c : Nat) (lo hi : Int) (zs : List Int) (w : World) (hr : RdI w a n zs) :
    Calls Tryz.prog 55 #[.slice a n c, .int .i64 lo, .int .i64 hi] w fun e w' => e = .returned (.bool (allIn zs lo hi)) ∧ w = w' := by
  have hm := hr.le
  go_enter Tryz.func55, Tryz.ntmps55
  go_wp2
  go_loop [11] (fun i => ∃ k : Nat, k ≤ n ∧ i = .int .i64 k ∧ ∀ j, j < k → inB (nth zs j) lo hi = true) (fun i => n - (intOf i).toNat)
  case atStart => exact ⟨0, Nat.zero_le _, rfl, by simp⟩
  case round =>
    obtain ⟨k, hk, rfl, hall⟩ := hrel
    have HA := Lib.hid hall
    clear hall
    by_cases hlt : k < n
    · obtain ⟨b, o, rfl, hbl, hc⟩ := hr.at (by omega)
      have hck := hc k hlt
      clear hc
      cases h : inB (nth zs k) lo hi
      all_goals
        have HH := Lib.hid h
        clear h
        go_wp2_with (go_at_call 80; refine (within_any _ _ _ _).mono ?_; rintro e w' ⟨rfl, rfl⟩; rw [HH.out])
      · go_ret
        exact ⟨ret_bool (allIn_false (by rw [hr.len]; exact hlt) HH.out).symm, rfl⟩
      · go_round
        case rel =>
          refine ⟨k + 1, by omega, by go_num, fun j hj => ?_⟩
          by_cases e : j = k
          · rw [e, HH.out]
          · exact HA.out j (by omega)
        case measure => simp [intOf]; omega
    · obtain rfl : k = n := by omega
      go_wp2
      go_ret
      exact ⟨ret_bool (allIn_true (by rw [hr.len]; exact HA.out)).symm, rfl⟩

end Go.Proofs.YtfglmoedicijkaaGreatDoor
