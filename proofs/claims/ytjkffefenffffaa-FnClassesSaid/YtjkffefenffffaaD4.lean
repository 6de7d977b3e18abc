/-
  The walks of CommonKind and DistanceOf, the program's and the reference's.
-/
import Derived.Test.YtjkffefenffffaaD3
namespace Go.Proofs.Ytjkffefenffffaa
open Go.RowKit

set_option maxHeartbeats 400000 in
theorem commonKind_any (a : Option Addr) (n c : Nat) (x y : Nat) (zs : List Int) (w : World) (hr : RdI w a n zs) (ht : Tree zs) (hx : x < n) (hy : y < n) :
    Calls Try.prog 62 #[.slice a n c, .int .i64 x, .int .i64 y] w fun e w' => e = .returned (.int .i64 (com zs x y)) ∧ Ext w w' := by
  have hm := hr.le
  obtain ⟨b, o, rfl, hbl, hc⟩ := hr.at (by omega)
  have HC := Lib.hid hc
  have HL := Lib.hid hr.len
  have HT := Lib.hid ht
  clear hc ht
  go_enter Try.func62, Try.ntmps62
  go_wp2
  go_loopw [1] (fun u wr => ∃ (k : Nat), u = .int .i64 k ∧ k < n ∧ com zs k y = com zs x y ∧ Ext w wr) (fun u _ => (intOf u).toNat)
  case atStart => exact ⟨x, rfl, hx, rfl, Ext.refl _⟩
  case round =>
    obtain ⟨k, rfl, hkn, hcom, hb⟩ := hrel
    have HY := Lib.hid hcom
    clear hcom
    have hck := (Below.cell hb (p := ⟨b, o + k, none⟩) hbl).trans (HC.out k hkn)
    cases h : hasI (kinds zs y) k
    · have hk0 : 0 < k := by
        rcases Nat.eq_zero_or_pos k with rfl | h0
        · rw [show ((0 : Nat) : Int) = 0 from rfl, hasI_root HT.out (by rw [HL.out]; exact hy)] at h
          cases h
        · exact h0
      have hlo := HT.out.lo k hk0 (by rw [HL.out]; exact hkn)
      have hhi := HT.out.hi k hk0 (by rw [HL.out]; exact hkn)
      have hno := com_no HT.out (by rw [HL.out]; exact hkn) h
      obtain ⟨j, hj⟩ := Int.eq_ofNat_of_zero_le hlo
      rw [hj] at hck hhi hno
      have HH := Lib.hid (And.intro h hno)
      clear h hno hlo hj
      go_wp2_with fail
      refine (isKindOf_any _ _ _ _ _ _ _ (hr.ext hb) HT.out hy).mono ?_
      rintro e w1 ⟨rfl, hb1⟩
      rw [HH.out.1]
      have hck1 := (Below.cell hb1 (p := ⟨b, o + k, none⟩) (Nat.lt_of_lt_of_le hbl hb.size)).trans hck
      go_wp2
      go_roundw
      case rel => exact ⟨j, rfl, by omega, by rw [← HH.out.2]; exact HY.out, hb.trans hb1⟩
      case measure => simp [intOf]; omega
    · have HH := Lib.hid h
      clear h
      go_wp2_with (first | (go_at_call 59; refine (isKindOf_any _ _ _ _ _ _ _ (hr.ext hb) HT.out hy).mono ?_; rintro e w1 ⟨rfl, hb1⟩; rw [HH.out]))
      go_ret
      exact ⟨ret_int (by rw [← HY.out]; exact (com_yes HT.out (by rw [HL.out]; exact hkn) HH.out).symm), hb.trans hb1⟩

set_option maxHeartbeats 400000 in
theorem l10Common_any (a : Option Addr) (n c : Nat) (x y : Nat) (zs : List Int) (w : World) (hr : RdI w a n zs) (ht : Tree zs) (hx : x < n) (hy : y < n) :
    Calls Try.prog 61 #[.slice a n c, .int .i64 x, .int .i64 y] w fun e w' => e = .returned (.int .i64 (com zs x y)) ∧ Ext w w' := by
  have hm := hr.le
  obtain ⟨b, o, rfl, hbl, hc⟩ := hr.at (by omega)
  have HC := Lib.hid hc
  have HL := Lib.hid hr.len
  have HT := Lib.hid ht
  have HCC := Lib.hid (com_comm ht (a := x) (b := y) (by rw [hr.len]; exact hx) (by rw [hr.len]; exact hy))
  clear hc ht
  go_enter Try.func61, Try.ntmps61
  go_wp2_with (go_at_call 53; refine (l10Kinds_any _ _ _ _ _ _ hr HT.out hx).mono ?_; rintro e w1 ⟨v, rfl, a1, n1, c1, rfl, ho, hb0⟩)
  have hck0 : ∀ k, k < n → w1.cell? ⟨b, o + k, none⟩ = some (.int .i64 (nth zs k)) := fun k hk => (Below.cell hb0 (p := ⟨b, o + k, none⟩) hbl).trans (HC.out k hk)
  have HC0 := Lib.hid hck0
  clear hck0
  go_loop [2] (fun u => ∃ (k : Nat), u = .int .i64 k ∧ k < n ∧ com zs k x = com zs x y) (fun u => (intOf u).toNat)
  case atStart => exact ⟨y, rfl, hy, HCC.out.symm⟩
  case round =>
    obtain ⟨k, rfl, hkn, hcom⟩ := hrel
    have HY := Lib.hid hcom
    clear hcom
    have hck := HC0.out k hkn
    cases h : hasI (kinds zs x) k
    · have hk0 : 0 < k := by
        rcases Nat.eq_zero_or_pos k with rfl | h0
        · rw [show ((0 : Nat) : Int) = 0 from rfl, hasI_root HT.out (by rw [HL.out]; exact hx)] at h
          cases h
        · exact h0
      have hlo := HT.out.lo k hk0 (by rw [HL.out]; exact hkn)
      have hhi := HT.out.hi k hk0 (by rw [HL.out]; exact hkn)
      have hno := com_no HT.out (by rw [HL.out]; exact hkn) h
      obtain ⟨j, hj⟩ := Int.eq_ofNat_of_zero_le hlo
      rw [hj] at hck hhi hno
      have HH := Lib.hid (And.intro h hno)
      clear h hno hlo hj
      go_wp2_with (first | (go_at_call 58; refine (l01Has_any _ _ _ _ _ _ ho.rd).mono ?_; rintro e w' ⟨rfl, rfl⟩; rw [HH.out.1]))
      go_round
      case rel => exact ⟨j, rfl, by omega, by rw [← HH.out.2]; exact HY.out⟩
      case measure => simp [intOf]; omega
    · have HH := Lib.hid h
      clear h
      go_wp2_with (first | (go_at_call 58; refine (l01Has_any _ _ _ _ _ _ ho.rd).mono ?_; rintro e w' ⟨rfl, rfl⟩; rw [HH.out]))
      go_ret
      exact ⟨ret_int (by rw [← HY.out]; exact (com_yes HT.out (by rw [HL.out]; exact hkn) HH.out).symm), hb0⟩

set_option maxHeartbeats 400000 in
theorem specCommonKind_any (a : Option Addr) (n c : Nat) (x y : Int) (zs : List Int) (w : World) (hr : RdI w a n zs) :
    Calls Try.prog 33 #[.slice a n c, .int .i64 x, .int .i64 y] w (RetIC w (comR zs x y) (codeL zs [x, y])) := by
  rcases code_cases zs [x, y] with h0 | h0
  · have hc' : (codeL zs [x, y] != 0) = false := by rw [h0]; rfl
    obtain ⟨ht, ⟨hx0, hx1⟩, ⟨hy0, hy1⟩⟩ := codeL_two h0
    obtain ⟨i, rfl⟩ := Int.eq_ofNat_of_zero_le hx0
    obtain ⟨j, rfl⟩ := Int.eq_ofNat_of_zero_le hy0
    have hi : i < n := by have := hr.len; omega
    have hj : j < n := by have := hr.len; omega
    have hz : comR zs i j = com zs i j := by rw [comR, if_pos h0]
    have HZ := Lib.hid (And.intro h0 hz)
    clear hz h0 hx0 hx1 hy0 hy1
    go_enter Try.func33, Try.ntmps33
    go_wp2_with (first | (go_at_call 52; refine (l10Code_any _ _ _ _ _ _ _ hr).mono ?_; rintro e w' ⟨rfl, rfl⟩) | (go_at_call 61; refine (l10Common_any _ _ _ _ _ _ _ hr ht hi hj).mono ?_; rintro e w1 ⟨rfl, hb⟩))
    go_ret2
    rw [RetIC, HZ.out.2, HZ.out.1]
    exact ⟨rfl, hb⟩
  · have hc' : (codeL zs [x, y] != 0) = true := by simpa using h0
    have hz : comR zs x y = 0 := by rw [comR, if_neg h0]
    have HZ := Lib.hid hz
    clear hz h0
    go_enter Try.func33, Try.ntmps33
    go_wp2_with (first | (go_at_call 52; refine (l10Code_any _ _ _ _ _ _ _ hr).mono ?_; rintro e w' ⟨rfl, rfl⟩))
    go_ret2
    rw [RetIC, HZ.out]
    exact ⟨rfl, Ext.refl _⟩

set_option maxHeartbeats 400000 in
theorem implCommonKind_any (a : Option Addr) (n c : Nat) (x y : Int) (zs : List Int) (w : World) (hr : RdI w a n zs) :
    Calls Try.prog 34 #[.slice a n c, .int .i64 x, .int .i64 y] w (RetIC w (comR zs x y) (codeL zs [x, y])) := by
  have hal : ∀ o, Ext w (w.alloc o) := fun o => (Ext.refl _).alloc o
  have HAL := Lib.hid hal
  clear hal
  rcases code_cases zs [x, y] with h0 | h0
  · have hc' : (codeL zs [x, y] != 0) = false := by rw [h0]; rfl
    obtain ⟨ht, ⟨hx0, hx1⟩, ⟨hy0, hy1⟩⟩ := codeL_two h0
    obtain ⟨i, rfl⟩ := Int.eq_ofNat_of_zero_le hx0
    obtain ⟨j, rfl⟩ := Int.eq_ofNat_of_zero_le hy0
    have hi : i < n := by have := hr.len; omega
    have hj : j < n := by have := hr.len; omega
    have hz : comR zs i j = com zs i j := by rw [comR, if_pos h0]
    have HZ := Lib.hid (And.intro h0 hz)
    clear hz h0 hx0 hx1 hy0 hy1
    go_enter Try.func34, Try.ntmps34
    go_wp2_with (first | (go_at_call 54; refine (classCode_any _ _ _ _ _ _ _ [(i : Int), (j : Int)] _ (hr.ext (HAL.out _)) (RdI.new2 _ _ _ _)).mono ?_; rintro e w' ⟨rfl, rfl⟩) | (go_at_call 62; refine (commonKind_any _ _ _ _ _ _ _ (hr.ext (HAL.out _)) ht hi hj).mono ?_; rintro e w1 ⟨rfl, hb⟩))
    go_ret2
    rw [RetIC, HZ.out.2, HZ.out.1]
    exact ⟨rfl, (HAL.out _).trans hb⟩
  · have hc' : (codeL zs [x, y] != 0) = true := by simpa using h0
    have hz : comR zs x y = 0 := by rw [comR, if_neg h0]
    have HZ := Lib.hid hz
    clear hz h0
    go_enter Try.func34, Try.ntmps34
    go_wp2_with (first | (go_at_call 54; refine (classCode_any _ _ _ _ _ _ _ [x, y] _ (hr.ext (HAL.out _)) (RdI.new2 _ _ _ _)).mono ?_; rintro e w' ⟨rfl, rfl⟩))
    go_ret2
    rw [RetIC, HZ.out]
    exact ⟨rfl, HAL.out _⟩

end Go.Proofs.Ytjkffefenffffaa
