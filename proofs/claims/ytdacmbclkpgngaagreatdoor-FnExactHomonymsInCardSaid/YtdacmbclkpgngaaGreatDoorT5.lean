/-
  Marks in slices of strings, read back.
-/
import Derived.Test.YtdacmbclkpgngaaGreatDoorT4
import Derived.Deep.RegionHeld3
import Derived.Deep.RegionWith
import Derived.Deep.DrawnRows
namespace Go.Proofs.YtdacmbclkpgngaaGreatDoor
open Go.RowKit

attribute [local go_sem ↓] Go.wp_at_zero Go.wp_at_succ

set_option maxRecDepth 100000 in
set_option maxHeartbeats 1000000 in
theorem heldStringS_marks (a : Option Addr) (n c : Nat) (k : Int) (w : World) (hr : RdS w a n (marksS k n)) (hk0 : 0 < k) (hk1 : k ≤ 1073741824) (hn : n ≤ 1048576) :
    Calls Tryz.prog 15 #[.slice a n c, .int .i64 k] w fun e w' => e = .returned (.int .i64 (k + n)) ∧ Ext w w' := by
  have hm := hr.le
  go_enter Tryz.func15, Tryz.ntmps15
  go_wp2
  go_loopw [1, 5] (fun u i wr => ∃ t : Nat, t ≤ n ∧ i = .int .i64 t ∧ u = .int .i64 (k + t) ∧ Ext w wr) (fun _ i _ => n - (intOf i).toNat)
  case atStart => exact ⟨0, Nat.zero_le _, rfl, by simp, Ext.refl _⟩
  case round =>
    obtain ⟨t, ht, rfl, rfl, hx⟩ := hrel
    by_cases hlt : t < n
    · obtain ⟨b, o, rfl, hbl, hc⟩ := (hr.ext hx).at (by omega)
      have hck := hc t hlt
      rw [marksS_get k n t hlt] at hck
      clear hc
      have hti : (t : Int) < n := by omega
      have ht0 : (0 : Int) ≤ t := by omega
      go_wp2
      go_region_held3 (fun w' => w'.cell? ⟨b, o + t, none⟩ = some (.string (markT (k + t).toNat))) (go_keep) (first | (go_at_call 49; refine (markText_int (k + t) _ (by omega) (by omega)).mono ?_; rintro e w1 ⟨rfl, hx1⟩; have k2 := (Below.cell ((Ext.refl _).drew.trans hx1) (p := ⟨b, o + t, none⟩) hbl).trans hck))
      go_wp2
      go_roundw
      case rel => exact ⟨t + 1, by omega, by go_num, by go_num, hx.trans ((Ext.refl _).drew.trans hx1)⟩
      case measure => simp [intOf]; omega
    · obtain rfl : t = n := by omega
      go_wp2
      go_ret
      exact ⟨rfl, hx⟩

end Go.Proofs.YtdacmbclkpgngaaGreatDoor
