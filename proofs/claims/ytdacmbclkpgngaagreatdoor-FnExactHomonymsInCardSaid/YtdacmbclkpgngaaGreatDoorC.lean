/-
  Small functions on ints and slices of ints: bounds, a search, copies.
-/
import Derived.Test.YtdacmbclkpgngaaGreatDoorB
namespace Go.Proofs.YtdacmbclkpgngaaGreatDoor
open Go.RowKit

theorem within_any (x lo hi : Int) (w : World) :
    Calls Tryz.prog 65 #[.int .i64 x, .int .i64 lo, .int .i64 hi] w fun e w' => e = .returned (.bool (inB x lo hi)) ∧ w = w' := by
  by_cases h1 : lo ≤ x <;> by_cases h2 : x ≤ hi
  all_goals
    go_enter Tryz.func65, Tryz.ntmps65
    go_wp2
    go_ret
    exact ⟨by simp [inB, *], rfl⟩

theorem l01In_any (x lo hi : Int) (w : World) :
    Calls Tryz.prog 60 #[.int .i64 x, .int .i64 lo, .int .i64 hi] w fun e w' => e = .returned (.bool (inB x lo hi)) ∧ w = w' := by
  by_cases h1 : lo ≤ x <;> by_cases h2 : x ≤ hi
  all_goals
    go_enter Tryz.func60, Tryz.ntmps60
    go_wp2
    go_ret
    exact ⟨by simp [inB, *], rfl⟩

theorem length_int64_any (a : Option Addr) (n c : Nat) (w : World) (_ : n ≤ 4294967296) :
    Calls Tryz.prog 66 #[.slice a n c] w fun e w' => e = .returned (.int .i64 n) ∧ w = w' := by
  go_enter Tryz.func66, Tryz.ntmps66
  go_wp2
  go_ret
  exact ⟨rfl, rfl⟩

set_option maxHeartbeats 400000 in
theorem l01Has_any (a : Option Addr) (n c : Nat) (x : Int) (zs : List Int) (w : World) (hr : RdI w a n zs) :
    Calls Tryz.prog 62 #[.slice a n c, .int .i64 x] w fun e w' => e = .returned (.bool (hasI zs x)) ∧ w = w' := by
  have hm := hr.le
  go_enter Tryz.func62, Tryz.ntmps62
  go_wp2
  go_loop [5] (fun i => ∃ k : Nat, k ≤ n ∧ i = .int .i64 k ∧ ∀ j, j < k → nth zs j ≠ x) (fun i => n - (intOf i).toNat)
  case atStart => exact ⟨0, Nat.zero_le _, rfl, by simp⟩
  case round =>
    obtain ⟨k, hk, rfl, hall⟩ := hrel
    have HA := Lib.hid hall
    clear hall
    by_cases hlt : k < n
    · obtain ⟨b, o, rfl, hbl, hc⟩ := hr.at (by omega)
      have hck := hc k hlt
      clear hc
      by_cases h : nth zs k = x
      · have HH := Lib.hid h
        have hb : (nth zs k == x) = true := by simp [h]
        clear h
        go_wp2
        go_ret
        exact ⟨ret_bool (mem_nth (by rw [hr.len]; exact hlt) HH.out).symm, rfl⟩
      · have HH := Lib.hid h
        have hb : (nth zs k == x) = false := by simp [h]
        clear h
        go_wp2
        go_round
        case rel =>
          refine ⟨k + 1, by omega, by go_num, fun j hj => ?_⟩
          by_cases e : j = k
          · rw [e]; exact HH.out
          · exact HA.out j (by omega)
        case measure => simp [intOf]; omega
    · obtain rfl : k = n := by omega
      go_wp2
      go_ret
      exact ⟨ret_bool (not_mem_nth (by rw [hr.len]; exact HA.out)).symm, rfl⟩

set_option maxHeartbeats 400000 in
theorem slIndex_int64_any (a : Option Addr) (n c : Nat) (x : Int) (zs : List Int) (w : World) (hr : RdI w a n zs) :
    Calls Tryz.prog 130 #[.slice a n c, .int .i64 x] w fun e w' => e = .returned (.int .i64 (idxOf zs x)) ∧ w = w' := by
  have hm := hr.le
  go_enter Tryz.func130, Tryz.ntmps130
  go_wp2
  go_loop [8] (fun i => ∃ k : Nat, k ≤ n ∧ i = .int .i64 k ∧ ∀ j, j < k → nth zs j ≠ x) (fun i => n - (intOf i).toNat)
  case atStart => exact ⟨0, Nat.zero_le _, rfl, by simp⟩
  case round =>
    obtain ⟨k, hk, rfl, hall⟩ := hrel
    have HA := Lib.hid hall
    clear hall
    by_cases hlt : k < n
    · obtain ⟨b, o, rfl, hbl, hc⟩ := hr.at (by omega)
      have hck := hc k hlt
      clear hc
      by_cases h : nth zs k = x
      · have HH := Lib.hid h
        have hb : (x == nth zs k) = true := by simp [h]
        clear h
        go_wp2
        go_ret
        exact ⟨ret_int (idxOf_at (by rw [hr.len]; exact hlt) HH.out HA.out).symm, rfl⟩
      · have HH := Lib.hid h
        have hb : (x == nth zs k) = false := by rw [beq_eq_false_iff_ne]; exact fun e => h e.symm
        clear h
        go_wp2
        go_round
        case rel =>
          refine ⟨k + 1, by omega, by go_num, fun j hj => ?_⟩
          by_cases e : j = k
          · rw [e]; exact HH.out
          · exact HA.out j (by omega)
        case measure => simp [intOf]; omega
    · obtain rfl : k = n := by omega
      go_wp2
      go_ret
      exact ⟨ret_int (idxOf_none (by rw [hr.len]; exact HA.out)).symm, rfl⟩

theorem slContains_int64_any (a : Option Addr) (n c : Nat) (x : Int) (zs : List Int) (w : World) (hr : RdI w a n zs) :
    Calls Tryz.prog 108 #[.slice a n c, .int .i64 x] w fun e w' => e = .returned (.bool (hasI zs x)) ∧ w = w' := by
  go_enter Tryz.func108, Tryz.ntmps108
  go_wp2_with (go_at_call 130; refine (slIndex_int64_any _ _ _ _ _ _ hr).mono ?_; rintro e w' ⟨rfl, rfl⟩)
  go_ret
  exact ⟨ret_bool idxOf_ge, rfl⟩

end Go.Proofs.YtdacmbclkpgngaaGreatDoor
