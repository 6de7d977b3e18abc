/-
  The statements' helpers on texts.
-/
import Derived.Test.YtdicjpkcgeofjaaGreatDoorT2
import Derived.Deep.QuietTactic
import Derived.BigQuiet
namespace Go.Proofs.YtdicjpkcgeofjaaGreatDoor
open Go.RowKit

set_option maxHeartbeats 400000 in
theorem likeTexts_same (a b : Option Addr) (n c c' : Nat) (ss : List ByteArray) (w : World) (ha : RdS w a n ss) (hb : RdS w b n ss) :
    Calls Tryz.prog 17 #[.slice a n c, .slice b n c'] w fun e w' => e = .returned (.bool true) ∧ Still w w' := by
  have hm := ha.le
  go_enter Tryz.func17, Tryz.ntmps17
  go_wp2
  go_loopw [5] (fun i wr => ∃ k : Nat, k ≤ n ∧ i = .int .i64 k ∧ Still w wr) (fun i _ => n - (intOf i).toNat)
  case atStart => exact ⟨0, Nat.zero_le _, rfl, Still.refl _⟩
  case round =>
    obtain ⟨k, hk, rfl, hs⟩ := hrel
    by_cases hlt : k < n
    · obtain ⟨b1, o1, rfl, hbl1, hc1⟩ := (ha.ext hs.ext).at (by omega)
      obtain ⟨b2, o2, rfl, hbl2, hc2⟩ := (hb.ext hs.ext).at (by omega)
      have hk1 := hc1 k hlt
      have hk2 := hc2 k hlt
      clear hc1 hc2
      have hki : (k : Int) < n := by omega
      go_wp2
      go_quiet (fail)
      go_wp2
      go_roundw
      case rel => exact ⟨k + 1, by omega, by go_num, hs.drewN _⟩
      case measure => simp [intOf]; omega
    · obtain rfl : k = n := by omega
      go_wp2
      go_ret
      exact ⟨rfl, hs⟩


end Go.Proofs.YtdicjpkcgeofjaaGreatDoor
