/-
  The codes of a register; FindPlace on both sides.
-/
import Derived.Test.YtdacmbclkpgngaaDoorFD
namespace Go.Proofs.YtdacmbclkpgngaaDoor
open Go.RowKit

set_option maxRecDepth 100000 in
set_option maxHeartbeats 400000 in
theorem registerCode_any (a : Option Addr) (n c : Nat) (b : Bool) (y : Int) (xs : List PlaceV) (w : World) (hr : RdPlace w a n xs) (hcap : n ≤ c) (hmax : MaxW w) :
    Calls Tryd.prog 18 #[.slice a n c, .bool b, .int .i64 y] w fun e w' => e = .returned (.int .i64 (codeP xs b y)) ∧ Ext w w' := by
  cases hR : regB xs
  · have HZ := Lib.hid (And.intro hR (codeP_bad (b := b) (y := y) (.inl hR)))
    clear hR
    go_enter Tryd.func18, Tryd.ntmps18
    go_wp2_with fail
    refine (implIsRegister_any _ _ _ _ _ hr hcap hmax).mono ?_
    rintro e w1 ⟨rfl, e1⟩
    rw [HZ.out.1]
    go_wp2
    go_ret
    exact ⟨ret_int HZ.out.2.symm, e1⟩
  cases b
  · have HZ := Lib.hid (And.intro hR (codeP_bad (xs := xs) (b := false) (y := y) (.inr rfl)))
    clear hR
    go_enter Tryd.func18, Tryd.ntmps18
    go_wp2_with fail
    refine (implIsRegister_any _ _ _ _ _ hr hcap hmax).mono ?_
    rintro e w1 ⟨rfl, e1⟩
    rw [HZ.out.1]
    go_wp2
    go_ret
    exact ⟨ret_int HZ.out.2.symm, e1⟩
  cases hY : inB y (-3000) 3000
  · have HZ := Lib.hid (And.intro hR (And.intro hY (codeP_range hR rfl hY)))
    clear hR hY
    go_enter Tryd.func18, Tryd.ntmps18
    go_wp2_with fail
    refine (implIsRegister_any _ _ _ _ _ hr hcap hmax).mono ?_
    rintro e w1 ⟨rfl, e1⟩
    rw [HZ.out.1]
    go_wp2_with fail
    refine (isYear_any _ _).mono ?_
    rintro e w2 ⟨rfl, rfl⟩
    rw [HZ.out.2.1]
    go_wp2
    go_ret
    exact ⟨ret_int HZ.out.2.2.symm, e1⟩
  · have HZ := Lib.hid (And.intro hR (And.intro hY (codeP_ok hR rfl hY)))
    clear hR hY
    go_enter Tryd.func18, Tryd.ntmps18
    go_wp2_with fail
    refine (implIsRegister_any _ _ _ _ _ hr hcap hmax).mono ?_
    rintro e w1 ⟨rfl, e1⟩
    rw [HZ.out.1]
    go_wp2_with fail
    refine (isYear_any _ _).mono ?_
    rintro e w2 ⟨rfl, rfl⟩
    rw [HZ.out.2.1]
    go_wp2
    go_ret
    exact ⟨ret_int HZ.out.2.2.symm, e1⟩

set_option maxRecDepth 100000 in
set_option maxHeartbeats 400000 in
theorem l11Year_any (a : Option Addr) (n c : Nat) (y : Int) (xs : List PlaceV) (w : World) (hr : RdPlace w a n xs) :
    Calls Tryd.prog 15 #[.slice a n c, .int .i64 y] w fun e w' => e = .returned (.int .i64 (codeP xs true y)) ∧ Ext w w' := by
  cases hR : regB xs
  · have HZ := Lib.hid (And.intro hR (codeP_bad (b := true) (y := y) (.inl hR)))
    clear hR
    go_enter Tryd.func15, Tryd.ntmps15
    go_wp2_with fail
    refine (specIsRegister_any _ _ _ _ _ hr).mono ?_
    rintro e w1 ⟨rfl, e1⟩
    rw [HZ.out.1]
    go_wp2
    go_ret
    exact ⟨ret_int HZ.out.2.symm, e1⟩
  cases hY : inB y (-3000) 3000
  · have HZ := Lib.hid (And.intro hR (And.intro hY (codeP_range hR rfl hY)))
    clear hR hY
    go_enter Tryd.func15, Tryd.ntmps15
    go_wp2_with fail
    refine (specIsRegister_any _ _ _ _ _ hr).mono ?_
    rintro e w1 ⟨rfl, e1⟩
    rw [HZ.out.1]
    go_wp2_with fail
    refine (l02Year_any _ _).mono ?_
    rintro e w2 ⟨rfl, rfl⟩
    rw [HZ.out.2.1]
    go_wp2
    go_ret
    exact ⟨ret_int HZ.out.2.2.symm, e1⟩
  · have HZ := Lib.hid (And.intro hR (And.intro hY (codeP_ok hR rfl hY)))
    clear hR hY
    go_enter Tryd.func15, Tryd.ntmps15
    go_wp2_with fail
    refine (specIsRegister_any _ _ _ _ _ hr).mono ?_
    rintro e w1 ⟨rfl, e1⟩
    rw [HZ.out.1]
    go_wp2_with fail
    refine (l02Year_any _ _).mono ?_
    rintro e w2 ⟨rfl, rfl⟩
    rw [HZ.out.2.1]
    go_wp2
    go_ret
    exact ⟨ret_int HZ.out.2.2.symm, e1⟩

/-- The code of a register, a code of a place and a year. -/
def codeF (xs : List PlaceV) (s : ByteArray) (y : Int) : Int := if codeP xs (wordB s) y = 0 then (if fpB xs s = true then 0 else 4) else codeP xs (wordB s) y
theorem codeF_bad {xs : List PlaceV} {s : ByteArray} {y : Int} (h : codeP xs (wordB s) y ≠ 0) : codeF xs s y = codeP xs (wordB s) y := if_neg h
theorem codeF_no {xs : List PlaceV} {s : ByteArray} {y : Int} (h : codeP xs (wordB s) y = 0) (h2 : fpB xs s = false) : codeF xs s y = 4 := by rw [codeF, if_pos h, h2]; rfl
theorem codeF_yes {xs : List PlaceV} {s : ByteArray} {y : Int} (h : codeP xs (wordB s) y = 0) (h2 : fpB xs s = true) : codeF xs s y = 0 := by rw [codeF, if_pos h, if_pos h2]

end Go.Proofs.YtdacmbclkpgngaaDoor
