/-
  Small functions on ints and slices of ints: bounds, a search, copies.
-/
import Derived.Test.YtjkffefenffffaaB
namespace Go.Proofs.Ytjkffefenffffaa
open Go.RowKit

theorem within_any (x lo hi : Int) (w : World) :
    Calls Try.prog 49 #[.int .i64 x, .int .i64 lo, .int .i64 hi] w fun e w' => e = .returned (.bool (inB x lo hi)) ∧ w = w' := by
  by_cases h1 : lo ≤ x <;> by_cases h2 : x ≤ hi
  all_goals
    go_enter Try.func49, Try.ntmps49
    go_wp2
    go_ret
    exact ⟨by simp [inB, *], rfl⟩

theorem l01In_any (x lo hi : Int) (w : World) :
    Calls Try.prog 48 #[.int .i64 x, .int .i64 lo, .int .i64 hi] w fun e w' => e = .returned (.bool (inB x lo hi)) ∧ w = w' := by
  by_cases h1 : lo ≤ x <;> by_cases h2 : x ≤ hi
  all_goals
    go_enter Try.func48, Try.ntmps48
    go_wp2
    go_ret
    exact ⟨by simp [inB, *], rfl⟩

theorem length_int64_any (a : Option Addr) (n c : Nat) (w : World) (_ : n ≤ 4294967296) :
    Calls Try.prog 50 #[.slice a n c] w fun e w' => e = .returned (.int .i64 n) ∧ w = w' := by
  go_enter Try.func50, Try.ntmps50
  go_wp2
  go_ret
  exact ⟨rfl, rfl⟩

set_option maxHeartbeats 400000 in
theorem areWithin_any (a : Option Addr) (n c : Nat) (lo hi : Int) (zs : List Int) (w : World) (hr : RdI w a n zs) :
    Calls Try.prog 51 #[.slice a n c, .int .i64 lo, .int .i64 hi] w fun e w' => e = .returned (.bool (allIn zs lo hi)) ∧ w = w' := by
  have hm := hr.le
  go_enter Try.func51, Try.ntmps51
  go_wp2
  go_loop [11] (fun i => ∃ k : Nat, k ≤ n ∧ i = .int .i64 k ∧ ∀ j, j < k → inB (nth zs j) lo hi = true) (fun i => n - (intOf i).toNat)
  case atStart => exact ⟨0, Nat.zero_le _, rfl, by simp⟩
  case round =>
    obtain ⟨k, hk, rfl, hall⟩ := hrel
    have HA := Lib.hid hall
    clear hall
    by_cases hlt : k < n
    · obtain ⟨b, o, rfl, hbl, hc⟩ := hr.at (by omega)
      have hck := hc k hlt
      clear hc
      cases h : inB (nth zs k) lo hi
      all_goals
        have HH := Lib.hid h
        clear h
        go_wp2_with (go_at_call 49; refine (within_any _ _ _ _).mono ?_; rintro e w' ⟨rfl, rfl⟩; rw [HH.out])
      · go_ret
        exact ⟨ret_bool (allIn_false (by rw [hr.len]; exact hlt) HH.out).symm, rfl⟩
      · go_round
        case rel =>
          refine ⟨k + 1, by omega, by go_num, fun j hj => ?_⟩
          by_cases e : j = k
          · rw [e, HH.out]
          · exact HA.out j (by omega)
        case measure => simp [intOf]; omega
    · obtain rfl : k = n := by omega
      go_wp2
      go_ret
      exact ⟨ret_bool (allIn_true (by rw [hr.len]; exact HA.out)).symm, rfl⟩

set_option maxHeartbeats 400000 in
theorem l01Has_any (a : Option Addr) (n c : Nat) (x : Int) (zs : List Int) (w : World) (hr : RdI w a n zs) :
    Calls Try.prog 58 #[.slice a n c, .int .i64 x] w fun e w' => e = .returned (.bool (hasI zs x)) ∧ w = w' := by
  have hm := hr.le
  go_enter Try.func58, Try.ntmps58
  go_wp2
  go_loop [5] (fun i => ∃ k : Nat, k ≤ n ∧ i = .int .i64 k ∧ ∀ j, j < k → nth zs j ≠ x) (fun i => n - (intOf i).toNat)
  case atStart => exact ⟨0, Nat.zero_le _, rfl, by simp⟩
  case round =>
    obtain ⟨k, hk, rfl, hall⟩ := hrel
    have HA := Lib.hid hall
    clear hall
    by_cases hlt : k < n
    · obtain ⟨b, o, rfl, hbl, hc⟩ := hr.at (by omega)
      have hck := hc k hlt
      clear hc
      by_cases h : nth zs k = x
      · have HH := Lib.hid h
        have hb : (nth zs k == x) = true := by simp [h]
        clear h
        go_wp2
        go_ret
        exact ⟨ret_bool (mem_nth (by rw [hr.len]; exact hlt) HH.out).symm, rfl⟩
      · have HH := Lib.hid h
        have hb : (nth zs k == x) = false := by simp [h]
        clear h
        go_wp2
        go_round
        case rel =>
          refine ⟨k + 1, by omega, by go_num, fun j hj => ?_⟩
          by_cases e : j = k
          · rw [e]; exact HH.out
          · exact HA.out j (by omega)
        case measure => simp [intOf]; omega
    · obtain rfl : k = n := by omega
      go_wp2
      go_ret
      exact ⟨ret_bool (not_mem_nth (by rw [hr.len]; exact HA.out)).symm, rfl⟩

set_option maxHeartbeats 400000 in
theorem slIndex_int64_any (a : Option Addr) (n c : Nat) (x : Int) (zs : List Int) (w : World) (hr : RdI w a n zs) :
    Calls Try.prog 68 #[.slice a n c, .int .i64 x] w fun e w' => e = .returned (.int .i64 (idxOf zs x)) ∧ w = w' := by
  have hm := hr.le
  go_enter Try.func68, Try.ntmps68
  go_wp2
  go_loop [8] (fun i => ∃ k : Nat, k ≤ n ∧ i = .int .i64 k ∧ ∀ j, j < k → nth zs j ≠ x) (fun i => n - (intOf i).toNat)
  case atStart => exact ⟨0, Nat.zero_le _, rfl, by simp⟩
  case round =>
    obtain ⟨k, hk, rfl, hall⟩ := hrel
    have HA := Lib.hid hall
    clear hall
    by_cases hlt : k < n
    · obtain ⟨b, o, rfl, hbl, hc⟩ := hr.at (by omega)
      have hck := hc k hlt
      clear hc
      by_cases h : nth zs k = x
      · have HH := Lib.hid h
        have hb : (x == nth zs k) = true := by simp [h]
        clear h
        go_wp2
        go_ret
        exact ⟨ret_int (idxOf_at (by rw [hr.len]; exact hlt) HH.out HA.out).symm, rfl⟩
      · have HH := Lib.hid h
        have hb : (x == nth zs k) = false := by rw [beq_eq_false_iff_ne]; exact fun e => h e.symm
        clear h
        go_wp2
        go_round
        case rel =>
          refine ⟨k + 1, by omega, by go_num, fun j hj => ?_⟩
          by_cases e : j = k
          · rw [e]; exact HH.out
          · exact HA.out j (by omega)
        case measure => simp [intOf]; omega
    · obtain rfl : k = n := by omega
      go_wp2
      go_ret
      exact ⟨ret_int (idxOf_none (by rw [hr.len]; exact HA.out)).symm, rfl⟩

theorem slContains_int64_any (a : Option Addr) (n c : Nat) (x : Int) (zs : List Int) (w : World) (hr : RdI w a n zs) :
    Calls Try.prog 60 #[.slice a n c, .int .i64 x] w fun e w' => e = .returned (.bool (hasI zs x)) ∧ w = w' := by
  go_enter Try.func60, Try.ntmps60
  go_wp2_with (go_at_call 68; refine (slIndex_int64_any _ _ _ _ _ _ hr).mono ?_; rintro e w' ⟨rfl, rfl⟩)
  go_ret
  exact ⟨ret_bool idxOf_ge, rfl⟩

theorem l01Own_any (a : Option Addr) (n c : Nat) (zs : List Int) (w : World) (hr : RdI w a n zs) :
    Calls Try.prog 56 #[.slice a n c] w fun e w' => ∃ v, e = .returned v ∧ NewI w w' zs v := by
  have hm := hr.le
  go_enter Try.func56, Try.ntmps56
  go_wp2_with (first | (at_builtin; refine wpList_appI rfl _ _ rfl w.heap.size _ 0 [] rfl (OwnI.lit0 w (Nat.le_refl _)) _ _ _ zs rfl (hr.ext ((Ext.refl _).alloc _)) (by omega) (by simp) ?_; intro a' c' w1 hown hgrow; simp only [Nat.zero_add] at hown ⊢))
  go_ret
  exact ⟨_, rfl, _, _, _, rfl, hown, ((Ext.refl _).alloc _).wrote hgrow (Nat.le_refl _)⟩

theorem slClone_int64_any (a : Option Addr) (n c : Nat) (zs : List Int) (w : World) (hr : RdI w a n zs) :
    Calls Try.prog 57 #[.slice a n c] w fun e w' => ∃ v, e = .returned v ∧ NewI w w' zs v := by
  have hm := hr.le
  have hq := fun (w : World) (a : Option Addr) (n c : Nat) => Lib.run_eql_slice_nil (P := Try.prog) w 22 2 a n c 0 0 Try.underlying22
  cases a with
  | none =>
    go_enter Try.func57, Try.ntmps57
    go_wp2
    go_ret
    obtain ⟨_, rfl⟩ := hr.isNone
    exact ⟨_, rfl, none, 0, 0, rfl, ⟨OwnI.isNil _ _, by decide⟩, Ext.refl _⟩
  | some ad =>
    go_enter Try.func57, Try.ntmps57
    go_wp2_with (first | (at_builtin; refine wpList_appI rfl _ _ rfl w.heap.size _ 0 [] rfl (OwnI.lit0 w (Nat.le_refl _)) _ _ _ zs rfl (hr.ext ((Ext.refl _).alloc _)) (by omega) (by simp) ?_; intro a' c' w1 hown hgrow; simp only [Nat.zero_add] at hown ⊢))
    go_ret
    exact ⟨_, rfl, _, _, _, rfl, hown, ((Ext.refl _).alloc _).wrote hgrow (Nat.le_refl _)⟩

end Go.Proofs.Ytjkffefenffffaa
