/-
  The walks of DistanceOf, the program's and the reference's.
-/
import Derived.Test.YtjkffefenffffaaD4
namespace Go.Proofs.Ytjkffefenffffaa
open Go.RowKit

set_option maxHeartbeats 400000 in
theorem specDistanceOf_any (a : Option Addr) (n c : Nat) (x y : Int) (zs : List Int) (w : World) (hr : RdI w a n zs) :
    Calls Try.prog 35 #[.slice a n c, .int .i64 x, .int .i64 y] w (RetIC w (distR zs x y) (codeL zs [x, y])) := by
  have hm := hr.le
  have HL := Lib.hid hr.len
  rcases code_cases zs [x, y] with h0 | h0
  · have hc' : (codeL zs [x, y] != 0) = false := by rw [h0]; rfl
    obtain ⟨ht, ⟨hx0, hx1⟩, ⟨hy0, hy1⟩⟩ := codeL_two h0
    obtain ⟨i, rfl⟩ := Int.eq_ofNat_of_zero_le hx0
    obtain ⟨j, rfl⟩ := Int.eq_ofNat_of_zero_le hy0
    have hi : i < n := by have := hr.len; omega
    have hj : j < n := by have := hr.len; omega
    obtain ⟨k, hk, hki⟩ := com_bd ht (a := i) (b := j) (by rw [HL.out]; exact hi) (by rw [HL.out]; exact hj)
    have hz : distR zs i j = ((kinds zs i).length + (kinds zs j).length - 2 * (kinds zs k).length : Int) := by rw [distR, if_pos h0, hk]
    have hli := kinds_len ht i (by rw [HL.out]; exact hi)
    have hlj := kinds_len ht j (by rw [HL.out]; exact hj)
    have hlk := kinds_len ht k (by rw [HL.out]; omega)
    have h20 := ht.le
    have HB := Lib.hid (And.intro h20 (And.intro hli (And.intro hlj hlk)))
    have HZ := Lib.hid (And.intro h0 hz)
    have HK := Lib.hid hk
    clear hz h0 hx0 hx1 hy0 hy1 hk hli hlj hlk h20
    go_enter Try.func35, Try.ntmps35
    go_wp2_with (first | (go_at_call 52; refine (l10Code_any _ _ _ _ _ _ _ hr).mono ?_; rintro e w' ⟨rfl, rfl⟩) | (go_at_call 61; refine (l10Common_any _ _ _ _ _ _ _ hr ht hi hj).mono ?_; rintro e w1 ⟨rfl, hb1⟩; rw [HK.out]))
    refine (l10Kinds_any _ _ _ _ _ _ (hr.ext hb1) ht hi).mono ?_
    rintro e w2 ⟨v, rfl, a2, n2, c2, rfl, ho2, hb2⟩
    go_wp2_with fail
    refine (l10Kinds_any _ _ _ _ _ _ (hr.ext (hb1.trans hb2)) ht hj).mono ?_
    rintro e w3 ⟨v, rfl, a3, n3, c3, rfl, ho3, hb3⟩
    have hn2 : n2 ≤ 20 := by have := ho2.rd.len; have := HB.out; have := HL.out; omega
    have hn3 : n3 ≤ 20 := by have := ho3.rd.len; have := HB.out; have := HL.out; omega
    go_wp2_with fail
    refine (l10Kinds_any _ _ _ _ _ _ (hr.ext ((hb1.trans hb2).trans hb3)) ht (Nat.lt_of_le_of_lt hki hi)).mono ?_
    rintro e w4 ⟨v, rfl, a4, n4, c4, rfl, ho4, hb4⟩
    have hn4 : n4 ≤ 20 := by have := ho4.rd.len; have := HB.out; have := HL.out; omega
    go_wp2
    go_ret2
    rw [RetIC, HZ.out.2, HZ.out.1, ho2.rd.len, ho3.rd.len, ho4.rd.len]
    exact ⟨rfl, ((hb1.trans hb2).trans hb3).trans hb4⟩
  · have hc' : (codeL zs [x, y] != 0) = true := by simpa using h0
    have hz : distR zs x y = 0 := by rw [distR, if_neg h0]
    have HZ := Lib.hid hz
    clear hz h0
    go_enter Try.func35, Try.ntmps35
    go_wp2_with (first | (go_at_call 52; refine (l10Code_any _ _ _ _ _ _ _ hr).mono ?_; rintro e w' ⟨rfl, rfl⟩))
    go_ret2
    rw [RetIC, HZ.out]
    exact ⟨rfl, Ext.refl _⟩

set_option maxHeartbeats 400000 in
theorem implDistanceOf_any (a : Option Addr) (n c : Nat) (x y : Int) (zs : List Int) (w : World) (hr : RdI w a n zs) :
    Calls Try.prog 36 #[.slice a n c, .int .i64 x, .int .i64 y] w (RetIC w (distR zs x y) (codeL zs [x, y])) := by
  have hm := hr.le
  have HL := Lib.hid hr.len
  have hal : ∀ o, Ext w (w.alloc o) := fun o => (Ext.refl _).alloc o
  have HAL := Lib.hid hal
  clear hal
  rcases code_cases zs [x, y] with h0 | h0
  · have hc' : (codeL zs [x, y] != 0) = false := by rw [h0]; rfl
    obtain ⟨ht, ⟨hx0, hx1⟩, ⟨hy0, hy1⟩⟩ := codeL_two h0
    obtain ⟨i, rfl⟩ := Int.eq_ofNat_of_zero_le hx0
    obtain ⟨j, rfl⟩ := Int.eq_ofNat_of_zero_le hy0
    have hi : i < n := by have := hr.len; omega
    have hj : j < n := by have := hr.len; omega
    obtain ⟨k, hk, hki⟩ := com_bd ht (a := i) (b := j) (by rw [HL.out]; exact hi) (by rw [HL.out]; exact hj)
    have hz : distR zs i j = ((kinds zs i).length + (kinds zs j).length - 2 * (kinds zs k).length : Int) := by rw [distR, if_pos h0, hk]
    have hli := kinds_len ht i (by rw [HL.out]; exact hi)
    have hlj := kinds_len ht j (by rw [HL.out]; exact hj)
    have hlk := kinds_len ht k (by rw [HL.out]; omega)
    have h20 := ht.le
    have HB := Lib.hid (And.intro h20 (And.intro hli (And.intro hlj hlk)))
    have HZ := Lib.hid (And.intro h0 hz)
    have HK := Lib.hid hk
    clear hz h0 hx0 hx1 hy0 hy1 hk hli hlj hlk h20
    go_enter Try.func36, Try.ntmps36
    go_wp2_with (first | (go_at_call 54; refine (classCode_any _ _ _ _ _ _ _ [(i : Int), (j : Int)] _ (hr.ext (HAL.out _)) (RdI.new2 _ _ _ _)).mono ?_; rintro e w' ⟨rfl, rfl⟩) | (go_at_call 62; refine (commonKind_any _ _ _ _ _ _ _ (hr.ext (HAL.out _)) ht hi hj).mono ?_; rintro e w1 ⟨rfl, hb1⟩; rw [HK.out]))
    have hx1 := (HAL.out _).trans hb1
    refine (kindsOf_any _ _ _ _ _ _ (hr.ext hx1) ht (Nat.lt_of_le_of_lt hki hi)).mono ?_
    rintro e w4 ⟨v, rfl, a4, n4, c4, rfl, ho4, hb4⟩
    have hn4 : n4 ≤ 20 := by have := ho4.rd.len; have := HB.out; have := HL.out; omega
    go_wp2_with (first | (go_at_call 50; refine (length_int64_any _ _ _ _ (by omega)).mono ?_; rintro e w' ⟨rfl, rfl⟩))
    refine (kindsOf_any _ _ _ _ _ _ (hr.ext (hx1.trans hb4)) ht hi).mono ?_
    rintro e w2 ⟨v, rfl, a2, n2, c2, rfl, ho2, hb2⟩
    have hn2 : n2 ≤ 20 := by have := ho2.rd.len; have := HB.out; have := HL.out; omega
    go_wp2_with (first | (go_at_call 50; refine (length_int64_any _ _ _ _ (by omega)).mono ?_; rintro e w' ⟨rfl, rfl⟩))
    refine (kindsOf_any _ _ _ _ _ _ (hr.ext ((hx1.trans hb4).trans hb2)) ht hj).mono ?_
    rintro e w3 ⟨v, rfl, a3, n3, c3, rfl, ho3, hb3⟩
    have hn3 : n3 ≤ 20 := by have := ho3.rd.len; have := HB.out; have := HL.out; omega
    go_wp2_with (first | (go_at_call 50; refine (length_int64_any _ _ _ _ (by omega)).mono ?_; rintro e w' ⟨rfl, rfl⟩))
    go_ret2
    rw [RetIC, HZ.out.2, HZ.out.1, ho2.rd.len, ho3.rd.len, ho4.rd.len]
    exact ⟨rfl, ((hx1.trans hb4).trans hb2).trans hb3⟩
  · have hc' : (codeL zs [x, y] != 0) = true := by simpa using h0
    have hz : distR zs x y = 0 := by rw [distR, if_neg h0]
    have HZ := Lib.hid hz
    clear hz h0
    go_enter Try.func36, Try.ntmps36
    go_wp2_with (first | (go_at_call 54; refine (classCode_any _ _ _ _ _ _ _ [x, y] _ (hr.ext (HAL.out _)) (RdI.new2 _ _ _ _)).mono ?_; rintro e w' ⟨rfl, rfl⟩))
    go_ret2
    rw [RetIC, HZ.out]
    exact ⟨rfl, HAL.out _⟩

end Go.Proofs.Ytjkffefenffffaa
