/-
  FnOfficialYears returns true for every code: the walk.
-/
import Derived.Test.YteencdgaldhanaaGreatDoorM3
import Derived.Test.YteencdgaldhanaaGreatDoorDI
import Derived.Test.YteencdgaldhanaaGreatDoorW2
namespace Go.Proofs.YteencdgaldhanaaGreatDoor.fnOfficialYears
open Go.ChangeShapes Go.WideShapes Go.ChangeAt Go.RowKit

theorem ans : ANs := fun a n c xs w h => (specAreNames_any a n c xs w h).mono fun _ _ k => ⟨_, k.1, k.2⟩

set_option maxRecDepth 100000 in
set_option maxHeartbeats 4000000 in
theorem walk (a_code : Option Addr) (n_code c_code : Nat) (z_code : List Int) (w : World) (hi_code : InBy w a_code n_code z_code) (hmax : MaxW w) :
    Calls Tryz.prog 5 #[.slice a_code n_code c_code] w fun e w' => e = .returned (.bool true) ∧ Ext w w' := by
  by_cases hbig : (4096 : Int) < n_code
  · go_enter Tryz.func5, Tryz.ntmps5
    go_wp2_with (go_at_call 15; refine (big_any _ _ _ _).mono ?_; rintro e w' ⟨rfl, rfl⟩)
    go_ret
    exact ⟨rfl, Ext.refl _⟩
  have hr := hi_code.rdBy (by omega)
  clear hi_code
  go_enter Tryz.func5, Tryz.ntmps5
  go_wp2_with (go_at_call 15; refine (big_any _ _ _ _).mono ?_; rintro e w' ⟨rfl, rfl⟩)
  clear hbig
  refine (drawOfficialYears_any ans _ _ _ _ _ hr).mono ?_
  rintro e w1 ⟨a1, c1, xs, s, rfl, hs, hl1, hsh1, o1, x1⟩
  go_wp2_with fail
  refine (implOfficialYears_any _ _ _ _ _ _ o1.rd o1.cap (by omega) (hmax.ext x1)).mono ?_
  rintro e w2 ⟨v2, rfl, a2, n2, c2, rfl, hn2, o2, x2⟩
  have X2 := x1.trans x2
  go_wp2_with fail
  refine (specOfficialYears_any _ _ _ _ _ _ (o1.rd.ext x2) (by omega)).mono ?_
  rintro e w3 ⟨v3, rfl, a3, n3, c3, rfl, hn3, o3, x3⟩
  obtain rfl : n2 = n3 := o2.rd.len.symm.trans o3.rd.len
  have X3 := X2.trans x3
  go_wp2_with fail
  refine (likeSpans_same _ _ _ _ _ _ _ (o2.rd.ext x3) o3.rd).mono ?_
  rintro e w4 ⟨rfl, x4⟩
  have X4 := X3.trans x4
  have q1 := o1.rd.ext ((x2.trans x3).trans x4)
  have q2 := o2.rd.ext (x3.trans x4)
  have hcap := o1.cap
  clear o1 o2 o3 hn2 hn3
  cases hz : (oyC xs s == 0)
  · go_wp2
    go_ret
    exact ⟨rfl, X4⟩
  · have HZ := Lib.hid (show oyC xs s = 0 by simpa using hz)
    go_wp2_with fail
    refine (roll_any _ _ _ _ 901 _ (hr.ext X4)).mono ?_
    rintro e w5 ⟨g, rfl, hg, hd, x5⟩
    have HD := Lib.hid (And.intro hd x5)
    clear hd x5
    go_wp2
    go_loopw [10] (fun i wr => ∃ k j : Nat, k ≤ 6 ∧ i = .int .i64 k ∧ DiceB wr g a_code n_code c_code j ∧ Ext w4 wr) (fun i _ => 6 - (intOf i).toNat)
    case atStart => exact ⟨0, 0, by decide, rfl, HD.out.1, HD.out.2⟩
    case round =>
      obtain ⟨k, j, hk, rfl, hd, hx⟩ := hrel
      by_cases hlt : (k : Int) < 6
      · have HX := Lib.hid (And.intro hd hx)
        clear hd hx
        go_wp2_with fail
        refine (below_any g a_code n_code c_code j _ 1200 w4 _ (hr.ext X4) HX.out.2 hg HX.out.1 (by decide) (by decide)).mono ?_
        rintro e w6 ⟨x, j2, rfl, hx0, hx1, hd6, x6⟩
        have HY := Lib.hid (And.intro hd6 x6)
        have hw := IntWalk.i64_in (1000 + x) (by omega)
        have LAW := Lib.hid (oy_law (y := 1000 + x) HZ.out (by omega))
        clear hd6 x6
        go_wp2_with fail
        refine (implHasYear_any _ _ _ _ _ _ (q2.ext HY.out.2) (oy_set HZ.out)).mono ?_
        rintro e w7 ⟨rfl, x7⟩
        rw [LAW.out]
        go_wp2_with fail
        refine (implOfficialIn_any _ _ _ _ _ _ _ (q1.ext (HY.out.2.trans x7)) hcap (by omega) (hmax.ext (X4.trans (HY.out.2.trans x7)))).mono ?_
        rintro e w8 ⟨rfl, x8⟩
        have HW := Lib.hid (And.intro (HY.out.1.ext (x7.trans x8)) (HY.out.2.trans (x7.trans x8)))
        clear x7 x8
        go_wp2
        go_roundw
        case rel => exact ⟨k + 1, j2, by omega, by go_num, HW.out.1, HW.out.2⟩
        case measure => simp only [intOf]; omega
      · go_wp2
        go_ret
        exact ⟨rfl, X4.trans hx⟩

end Go.Proofs.YteencdgaldhanaaGreatDoor.fnOfficialYears
