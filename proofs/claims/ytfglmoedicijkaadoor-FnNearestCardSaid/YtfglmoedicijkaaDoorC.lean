/-
  Small functions on ints and slices of ints: bounds, a search, copies.
-/
import Derived.Test.YtfglmoedicijkaaDoorB
namespace Go.Proofs.YtfglmoedicijkaaDoor
open Go.RowKit

theorem within_any (x lo hi : Int) (w : World) :
    Calls Tryd.prog 52 #[.int .i64 x, .int .i64 lo, .int .i64 hi] w fun e w' => e = .returned (.bool (inB x lo hi)) ∧ w = w' := by
  by_cases h1 : lo ≤ x <;> by_cases h2 : x ≤ hi
  all_goals
    go_enter Tryd.func52, Tryd.ntmps52
    go_wp2
    go_ret
    exact ⟨by simp [inB, *], rfl⟩

theorem l01In_any (x lo hi : Int) (w : World) :
    Calls Tryd.prog 54 #[.int .i64 x, .int .i64 lo, .int .i64 hi] w fun e w' => e = .returned (.bool (inB x lo hi)) ∧ w = w' := by
  by_cases h1 : lo ≤ x <;> by_cases h2 : x ≤ hi
  all_goals
    go_enter Tryd.func54, Tryd.ntmps54
    go_wp2
    go_ret
    exact ⟨by simp [inB, *], rfl⟩

set_option maxHeartbeats 400000 in
theorem areWithin_any (a : Option Addr) (n c : Nat) (lo hi : Int) (zs : List Int) (w : World) (hr : RdI w a n zs) :
    Calls Tryd.prog 74 #[.slice a n c, .int .i64 lo, .int .i64 hi] w fun e w' => e = .returned (.bool (allIn zs lo hi)) ∧ w = w' := by
  have hm := hr.le
  go_enter Tryd.func74, Tryd.ntmps74
  go_wp2
  go_loop [11] (fun i => ∃ k : Nat, k ≤ n ∧ i = .int .i64 k ∧ ∀ j, j < k → inB (nth zs j) lo hi = true) (fun i => n - (intOf i).toNat)
  case atStart => exact ⟨0, Nat.zero_le _, rfl, by simp⟩
  case round =>
    obtain ⟨k, hk, rfl, hall⟩ := hrel
    have HA := Lib.hid hall
    clear hall
    by_cases hlt : k < n
    · obtain ⟨b, o, rfl, hbl, hc⟩ := hr.at (by omega)
      have hck := hc k hlt
      clear hc
      cases h : inB (nth zs k) lo hi
      all_goals
        have HH := Lib.hid h
        clear h
        go_wp2_with (go_at_call 52; refine (within_any _ _ _ _).mono ?_; rintro e w' ⟨rfl, rfl⟩; rw [HH.out])
      · go_ret
        exact ⟨ret_bool (allIn_false (by rw [hr.len]; exact hlt) HH.out).symm, rfl⟩
      · go_round
        case rel =>
          refine ⟨k + 1, by omega, by go_num, fun j hj => ?_⟩
          by_cases e : j = k
          · rw [e, HH.out]
          · exact HA.out j (by omega)
        case measure => simp [intOf]; omega
    · obtain rfl : k = n := by omega
      go_wp2
      go_ret
      exact ⟨ret_bool (allIn_true (by rw [hr.len]; exact HA.out)).symm, rfl⟩

theorem l01Own_any (a : Option Addr) (n c : Nat) (zs : List Int) (w : World) (hr : RdI w a n zs) :
    Calls Tryd.prog 58 #[.slice a n c] w fun e w' => ∃ v, e = .returned v ∧ NewI w w' zs v := by
  have hm := hr.le
  go_enter Tryd.func58, Tryd.ntmps58
  go_wp2_with (first | (at_builtin; refine wpList_appI rfl _ _ rfl w.heap.size _ 0 [] rfl (OwnI.lit0 w (Nat.le_refl _)) _ _ _ zs rfl (hr.ext ((Ext.refl _).alloc _)) (by omega) (by simp) ?_; intro a' c' w1 hown hgrow; simp only [Nat.zero_add] at hown ⊢))
  go_ret
  exact ⟨_, rfl, _, _, _, rfl, hown, ((Ext.refl _).alloc _).wrote hgrow (Nat.le_refl _)⟩

end Go.Proofs.YtfglmoedicijkaaDoor
