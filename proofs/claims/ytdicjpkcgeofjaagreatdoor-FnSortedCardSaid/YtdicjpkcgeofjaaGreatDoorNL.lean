/-
  Short texts of small letters: the reference's test.
-/
import Derived.Test.YtdicjpkcgeofjaaGreatDoorS
namespace Go.Proofs.YtdicjpkcgeofjaaGreatDoor
open Go.RowKit

set_option maxHeartbeats 400000 in
theorem l03Lower_any (s : ByteArray) (lo hi : Int) (w : World) (hs : s.size ≤ 9223372036854775807) :
    Calls Tryz.prog 76 #[.string s, .int .i64 lo, .int .i64 hi] w fun e w' => e = .returned (.bool (smallB s lo hi)) ∧ w = w' := by
  go_enter Tryz.func76, Tryz.ntmps76
  go_wp2
  go_loop [7] (fun i => ∃ k : Nat, k ≤ s.size ∧ i = .int .i64 k ∧ ∀ j (hj : j < s.size), j < k → 97 ≤ (s[j].toNat : Int) ∧ (s[j].toNat : Int) ≤ 122) (fun i => s.size - (intOf i).toNat)
  case atStart => exact ⟨0, Nat.zero_le _, rfl, fun j _ h => by omega⟩
  case round =>
    obtain ⟨k, hk, rfl, hall⟩ := hrel
    have HA := Lib.hid hall
    clear hall
    by_cases hlt : k < s.size
    · by_cases h1 : (s[k].toNat : Int) < 97
      · go_wp2
        go_ret
        exact ⟨ret_bool (by rw [smallB, lowB_bad hlt (.inl h1), Bool.and_false]), rfl⟩
      · by_cases h2 : (122 : Int) < s[k].toNat
        · go_wp2
          go_ret
          exact ⟨ret_bool (by rw [smallB, lowB_bad hlt (.inr h2), Bool.and_false]), rfl⟩
        · go_wp2
          go_round
          case rel =>
            refine ⟨k + 1, by omega, by go_num, fun j hj hjk => ?_⟩
            by_cases e : j = k
            · subst e; omega
            · exact HA.out j hj (by omega)
          case measure => simp [intOf]; omega
    · obtain rfl : k = s.size := by omega
      go_wp2_with (first | (go_at_call 50; refine (l01In_any _ _ _ _).mono ?_; rintro e w' ⟨rfl, rfl⟩))
      go_ret
      exact ⟨ret_bool (by rw [smallB, lowB_good (fun j hj => HA.out j hj hj), Bool.and_true]), rfl⟩

end Go.Proofs.YtdicjpkcgeofjaaGreatDoor
