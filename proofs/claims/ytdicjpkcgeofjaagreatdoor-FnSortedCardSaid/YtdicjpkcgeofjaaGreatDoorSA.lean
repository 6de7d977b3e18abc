/-
  The walks of the two IsAlphabet.
-/
import Derived.Test.YtdicjpkcgeofjaaGreatDoorX
import Derived.Test.YtdicjpkcgeofjaaGreatDoorNL
namespace Go.Proofs.YtdicjpkcgeofjaaGreatDoor
open Go.RowKit

/-- One to forty small texts of one to three letters, no two the same. -/
def firstsA (ss : List ByteArray) : Bool := (List.range ss.length).all fun i => smallB (nthS ss i) 1 3 && !hasS (ss.take i) (nthS ss i)
def alphaB (ss : List ByteArray) : Bool := firstsA ss && inB ss.length 1 40
theorem firstsA_bad {ss : List ByteArray} {k : Nat} (hk : k < ss.length) (h : smallB (nthS ss k) 1 3 = false ∨ hasS (ss.take k) (nthS ss k) = true) : firstsA ss = false := by
  rw [firstsA, List.all_eq_false]
  refine ⟨k, List.mem_range.2 hk, ?_⟩
  rcases h with h | h <;> simp [h]
theorem firstsA_good {ss : List ByteArray} (h : ∀ k, k < ss.length → smallB (nthS ss k) 1 3 = true ∧ hasS (ss.take k) (nthS ss k) = false) : firstsA ss = true := by
  rw [firstsA, List.all_eq_true]
  intro k hk
  have := h k (List.mem_range.1 hk)
  simp [this.1, this.2]
theorem lengthS_any (a : Option Addr) (n c : Nat) (w : World) :
    Calls Tryz.prog 59 #[.slice a n c] w fun e w' => e = .returned (.int .i64 n) ∧ w = w' := by
  go_enter Tryz.func59, Tryz.ntmps59
  go_wp2
  go_ret
  exact ⟨rfl, rfl⟩

set_option maxRecDepth 100000 in
set_option maxHeartbeats 400000 in
theorem specIsAlphabet_any (a : Option Addr) (n c : Nat) (ss : List ByteArray) (w : World) (hr : RdS w a n ss) :
    Calls Tryz.prog 48 #[.slice a n c] w fun e w' => e = .returned (.bool (alphaB ss)) ∧ w = w' := by
  have hm := hr.le
  go_enter Tryz.func48, Tryz.ntmps48
  go_wp2
  go_loop [3] (fun i => ∃ k : Nat, k ≤ n ∧ i = .int .i64 k ∧ ∀ j, j < k → smallB (nthS ss j) 1 3 = true ∧ hasS (ss.take j) (nthS ss j) = false) (fun i => n - (intOf i).toNat)
  case atStart => exact ⟨0, Nat.zero_le _, rfl, by simp⟩
  case round =>
    obtain ⟨k, hk, rfl, hall⟩ := hrel
    have HA := Lib.hid hall
    clear hall
    by_cases hlt : k < n
    · obtain ⟨b, o, rfl, hbl, hc⟩ := hr.at (by omega)
      have hck := hc k hlt
      have hsz := hr.size hlt
      have hln := hr.len
      clear hc
      cases h : smallB (nthS ss k) 1 3
      · have HH := Lib.hid h
        clear h
        go_wp2_with (go_at_call 76; refine (l03Lower_any _ _ _ _ (by omega)).mono ?_; rintro e w' ⟨rfl, rfl⟩; rw [HH.out])
        go_ret
        exact ⟨ret_bool (by rw [alphaB, firstsA_bad (by omega) (.inl HH.out)]; rfl), rfl⟩
      · by_cases hf : idxS ss (nthS ss k) = k
        · have HH := Lib.hid (And.intro h hf)
          have hb : (idxS ss (nthS ss k) == (k : Int)) = true := by rw [hf]; simp
          clear h hf
          go_wp2_with (first | (go_at_call 76; refine (l03Lower_any _ _ _ _ (by omega)).mono ?_; rintro e w' ⟨rfl, rfl⟩; rw [HH.out.1]) | (go_at_call 77; refine (l03Find_any _ _ _ _ _ _ hr).mono ?_; rintro e w' ⟨rfl, rfl⟩))
          go_round
          case rel =>
            refine ⟨k + 1, by omega, by go_num, fun j hj => ?_⟩
            by_cases e : j = k
            · rw [e]; exact ⟨HH.out.1, (first_iff (by omega)).1 HH.out.2⟩
            · exact HA.out j (by omega)
          case measure => simp [intOf]; omega
        · have HH := Lib.hid (And.intro h hf)
          have hb : (idxS ss (nthS ss k) == (k : Int)) = false := by rw [beq_eq_false_iff_ne]; exact hf
          clear h hf
          go_wp2_with (first | (go_at_call 76; refine (l03Lower_any _ _ _ _ (by omega)).mono ?_; rintro e w' ⟨rfl, rfl⟩; rw [HH.out.1]) | (go_at_call 77; refine (l03Find_any _ _ _ _ _ _ hr).mono ?_; rintro e w' ⟨rfl, rfl⟩))
          go_ret
          refine ⟨ret_bool ?_, rfl⟩
          rw [alphaB, firstsA_bad (k := k) (by omega) (.inr ?_)]; · rfl
          cases h2 : hasS (ss.take k) (nthS ss k)
          · exact absurd ((first_iff (by omega)).2 h2) HH.out.2
          · rfl
    · obtain rfl : k = n := by omega
      have hln := hr.len
      go_wp2_with (go_at_call 50; refine (l01In_any _ _ _ _).mono ?_; rintro e w' ⟨rfl, rfl⟩)
      go_ret
      exact ⟨ret_bool (by rw [alphaB, firstsA_good (fun j hj => HA.out j (by omega)), hln, Bool.true_and]), rfl⟩

set_option maxRecDepth 100000 in
set_option maxHeartbeats 400000 in
theorem implIsAlphabet_any (a : Option Addr) (n c : Nat) (ss : List ByteArray) (w : World) (hr : RdS w a n ss) (hcap : n ≤ c) :
    Calls Tryz.prog 56 #[.slice a n c] w fun e w' => e = .returned (.bool (alphaB ss)) ∧ Ext w w' := by
  have hm := hr.le
  go_enter Tryz.func56, Tryz.ntmps56
  go_wp2
  go_loopw [7] (fun i wr => ∃ k : Nat, k ≤ n ∧ i = .int .i64 k ∧ (∀ j, j < k → smallB (nthS ss j) 1 3 = true ∧ hasS (ss.take j) (nthS ss j) = false) ∧ Ext w wr) (fun i _ => n - (intOf i).toNat)
  case atStart => exact ⟨0, Nat.zero_le _, rfl, by simp, Ext.refl _⟩
  case round =>
    obtain ⟨k, hk, rfl, hall, hx⟩ := hrel
    have HA := Lib.hid hall
    clear hall
    by_cases hlt : k < n
    · obtain ⟨b, o, rfl, hbl, hc⟩ := (hr.ext hx).at (by omega)
      have hck := hc k hlt
      have hsz := hr.size hlt
      have hln := hr.len
      have hfr := (hr.ext hx).front (Nat.le_of_lt hlt)
      clear hc
      cases h : smallB (nthS ss k) 1 3
      · have HH := Lib.hid h
        clear h
        go_wp2_with fail
        refine (isSmall_any _ _ _ _ (by omega)).mono ?_
        rintro e w1 ⟨rfl, hx1⟩
        rw [HH.out]
        go_wp2
        go_ret
        exact ⟨ret_bool (by rw [alphaB, firstsA_bad (by omega) (.inl HH.out)]; rfl), hx.trans hx1⟩
      · cases hf : hasS (ss.take k) (nthS ss k)
        · have HH := Lib.hid (And.intro h hf)
          clear h hf
          go_wp2_with fail
          refine (isSmall_any _ _ _ _ (by omega)).mono ?_
          rintro e w1 ⟨rfl, hx1⟩
          rw [HH.out.1]
          have hfr1 := hfr.ext hx1
          go_wp2_with (go_at_call 84; refine (slContains_string_any _ _ _ _ _ _ hfr1).mono ?_; rintro e w' ⟨rfl, rfl⟩; rw [HH.out.2])
          go_roundw
          case rel =>
            refine ⟨k + 1, by omega, by go_num, fun j hj => ?_, hx.trans hx1⟩
            by_cases e : j = k
            · rw [e]; exact HH.out
            · exact HA.out j (by omega)
          case measure => simp [intOf]; omega
        · have HH := Lib.hid (And.intro h hf)
          clear h hf
          go_wp2_with fail
          refine (isSmall_any _ _ _ _ (by omega)).mono ?_
          rintro e w1 ⟨rfl, hx1⟩
          rw [HH.out.1]
          have hfr1 := hfr.ext hx1
          go_wp2_with (go_at_call 84; refine (slContains_string_any _ _ _ _ _ _ hfr1).mono ?_; rintro e w' ⟨rfl, rfl⟩; rw [HH.out.2])
          go_ret
          exact ⟨ret_bool (by rw [alphaB, firstsA_bad (k := k) (by omega) (.inr HH.out.2)]; rfl), hx.trans hx1⟩
    · obtain rfl : k = n := by omega
      have hln := hr.len
      go_wp2_with (first | (go_at_call 59; refine (lengthS_any _ _ _ _).mono ?_; rintro e w' ⟨rfl, rfl⟩) | (go_at_call 85; refine (within_any _ _ _ _).mono ?_; rintro e w' ⟨rfl, rfl⟩))
      go_ret
      exact ⟨ret_bool (by rw [alphaB, firstsA_good (fun j hj => HA.out j (by omega)), hln, Bool.true_and]), hx⟩

end Go.Proofs.YtdicjpkcgeofjaaGreatDoor
