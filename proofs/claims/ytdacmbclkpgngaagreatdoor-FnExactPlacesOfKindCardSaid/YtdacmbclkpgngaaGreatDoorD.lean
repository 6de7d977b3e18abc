/-
  The walks of the functions on a tree of classes: is it one, the error, the kinds.
-/
import Derived.Test.YtdacmbclkpgngaaGreatDoorC
import Derived.Test.YtdacmbclkpgngaaGreatDoorQ
namespace Go.Proofs.YtdacmbclkpgngaaGreatDoor
open Go.RowKit

theorem lt_step {P : Nat → Prop} {k : Nat} (h : ∀ j, j < k → P j) (hk : P k) : ∀ j, j < k + 1 → P j := fun j hj => by
  by_cases e : j = k
  · rw [e]; exact hk
  · exact h j (by omega)

set_option maxHeartbeats 400000 in
theorem implIsClassTree_any (a : Option Addr) (n c : Nat) (zs : List Int) (w : World) (hr : RdI w a n zs) :
    Calls Tryz.prog 64 #[.slice a n c] w fun e w' => e = .returned (.bool (treeB zs)) ∧ w = w' := by
  have hm := hr.le
  go_enter Tryz.func64, Tryz.ntmps64
  go_wp2
  go_loop [7] (fun i => ∃ k : Nat, k ≤ n ∧ i = .int .i64 k ∧ ∀ j, j < k → okAt zs j = true) (fun i => n - (intOf i).toNat)
  case atStart => exact ⟨0, Nat.zero_le _, rfl, by simp⟩
  case round =>
    obtain ⟨k, hk, rfl, hall⟩ := hrel
    have HA := Lib.hid hall
    clear hall
    by_cases hlt : k < n
    · obtain ⟨b, o, rfl, hbl, hc⟩ := hr.at (by omega)
      have hck := hc k hlt
      clear hc
      by_cases hk0 : k = 0
      · subst hk0
        simp only [Nat.add_zero] at hck
        cases h : (nth zs 0 == -1)
        · have hb : (nth zs 0 != -1) = true := by rw [bne, h]; rfl
          have HH := Lib.hid h
          clear h
          go_wp2
          go_ret
          exact ⟨ret_bool (treeB_bad (by rw [hr.len]; exact hlt) (by simpa [okAt] using HH.out)).symm, rfl⟩
        · have hb : (nth zs 0 != -1) = false := by rw [bne, h]; rfl
          have HH := Lib.hid h
          clear h
          go_wp2
          go_round
          case rel => exact ⟨1, by omega, by go_num, lt_step HA.out (by simpa [okAt] using HH.out)⟩
          case measure => simp [intOf]; omega
      · have hk1 : 0 < k := by omega
        have hkb : ((k : Int) == 0) = false := by simp; omega
        cases h : inB (nth zs k) 0 ((k : Int) - 1)
        all_goals
          have HH := Lib.hid h
          clear h
          go_wp2_with (go_at_call 65; refine (within_any _ _ _ _).mono ?_; rintro e w' ⟨rfl, rfl⟩; rw [HH.out])
        · go_ret
          exact ⟨ret_bool (treeB_bad (by rw [hr.len]; exact hlt) (by rw [okAt, if_neg hk0]; exact HH.out)).symm, rfl⟩
        · go_round
          case rel => exact ⟨k + 1, by omega, by go_num, lt_step HA.out (by rw [okAt, if_neg hk0]; exact HH.out)⟩
          case measure => simp [intOf]; omega
    · obtain rfl : k = n := by omega
      go_wp2_with (first | (go_at_call 65; refine (within_any _ _ _ _).mono ?_; rintro e w' ⟨rfl, rfl⟩) | (go_at_call 66; refine (length_int64_any _ _ _ _ hm).mono ?_; rintro e w' ⟨rfl, rfl⟩))
      go_ret
      exact ⟨ret_bool (by rw [treeB_good (by rw [hr.len]; exact HA.out), hr.len]), rfl⟩

set_option maxHeartbeats 400000 in
theorem specIsClassTree_any (a : Option Addr) (n c : Nat) (zs : List Int) (w : World) (hr : RdI w a n zs) :
    Calls Tryz.prog 59 #[.slice a n c] w fun e w' => e = .returned (.bool (treeB zs)) ∧ w = w' := by
  have hm := hr.le
  go_enter Tryz.func59, Tryz.ntmps59
  go_wp2
  go_loop [3] (fun i => ∃ k : Nat, 1 ≤ k ∧ (k ≤ n ∨ k = 1) ∧ i = .int .i64 k ∧ ∀ j, 1 ≤ j → j < k → okAt zs j = true) (fun i => n - (intOf i).toNat)
  case atStart => exact ⟨1, by omega, by omega, rfl, fun j h1 h2 => by omega⟩
  case round =>
    obtain ⟨k, hk1, hk, rfl, hall⟩ := hrel
    have HA := Lib.hid hall
    clear hall
    by_cases hlt : k < n
    · obtain ⟨b, o, rfl, hbl, hc⟩ := hr.at (by omega)
      have hck := hc k hlt
      have HK := Lib.hid hk
      clear hc hk
      cases h : inB (nth zs k) 0 ((k : Int) - 1)
      all_goals
        have HH := Lib.hid h
        clear h
        go_wp2_with (go_at_call 60; refine (l01In_any _ _ _ _).mono ?_; rintro e w' ⟨rfl, rfl⟩; rw [HH.out])
      · go_ret
        exact ⟨ret_bool (treeB_bad (by rw [hr.len]; exact hlt) (by rw [okAt, if_neg (by omega)]; exact HH.out)).symm, rfl⟩
      · go_round
        case rel =>
          refine ⟨k + 1, by omega, by omega, by go_num, fun j h1 h2 => ?_⟩
          by_cases e : j = k
          · rw [e, okAt, if_neg (by omega)]; exact HH.out
          · exact HA.out j h1 (by omega)
        case measure => simp [intOf]; omega
    · have HK := Lib.hid hk
      clear hk
      cases h : inB (n : Int) 1 20
      · have HH := Lib.hid h
        clear h
        go_wp2_with (first | (go_at_call 60; refine (l01In_any _ _ _ _).mono ?_; rintro e w' ⟨rfl, rfl⟩; rw [HH.out]))
        go_ret
        exact ⟨ret_bool (by rw [treeB, hr.len, HH.out, Bool.and_false]), rfl⟩
      · have HH := Lib.hid h
        have hn1 := (inB_iff.1 h).1
        clear h
        obtain ⟨b, o, rfl, hbl, hc⟩ := hr.at (by omega)
        have hck := hc 0 (by omega)
        simp only [Nat.add_zero] at hck
        clear hc
        have hpos : 0 < n := by omega
        have hfin : treeB zs = (nth zs 0 == -1) := by
          cases h0 : nth zs 0 == -1
          · exact treeB_bad (k := 0) (by rw [hr.len]; exact hpos) (by simpa [okAt] using h0)
          · rw [treeB_good, hr.len, HH.out]
            intro j hj
            rw [hr.len] at hj
            by_cases e : j = 0
            · subst e; simpa [okAt] using h0
            · exact HA.out j (by omega) (by have := HK.out; omega)
        have HF := Lib.hid hfin
        clear hfin
        go_wp2_with (first | (go_at_call 60; refine (l01In_any _ _ _ _).mono ?_; rintro e w' ⟨rfl, rfl⟩; rw [HH.out]))
        go_ret
        exact ⟨ret_bool HF.out.symm, rfl⟩

end Go.Proofs.YtdacmbclkpgngaaGreatDoor
