/-
  The codes of a register; FindPlace on both sides.
-/
import Derived.Test.YtjelmidkkpchkaaGreatDoorFD
namespace Go.Proofs.YtjelmidkkpchkaaGreatDoor
open Go.RowKit

set_option maxRecDepth 100000 in
set_option maxHeartbeats 400000 in
theorem registerCode_any (a : Option Addr) (n c : Nat) (b : Bool) (y : Int) (xs : List PlaceV) (w : World) (hr : RdPlace w a n xs) (hcap : n ≤ c) (hmax : MaxW w) :
    Calls Tryz.prog 38 #[.slice a n c, .bool b, .int .i64 y] w fun e w' => e = .returned (.int .i64 (codeP xs b y)) ∧ Ext w w' := by
  cases hR : regB xs
  · have HZ := Lib.hid (And.intro hR (codeP_bad (b := b) (y := y) (.inl hR)))
    clear hR
    go_enter Tryz.func38, Tryz.ntmps38
    go_wp2_with fail
    refine (implIsRegister_any _ _ _ _ _ hr hcap hmax).mono ?_
    rintro e w1 ⟨rfl, e1⟩
    rw [HZ.out.1]
    go_wp2
    go_ret
    exact ⟨ret_int HZ.out.2.symm, e1⟩
  cases b
  · have HZ := Lib.hid (And.intro hR (codeP_bad (xs := xs) (b := false) (y := y) (.inr rfl)))
    clear hR
    go_enter Tryz.func38, Tryz.ntmps38
    go_wp2_with fail
    refine (implIsRegister_any _ _ _ _ _ hr hcap hmax).mono ?_
    rintro e w1 ⟨rfl, e1⟩
    rw [HZ.out.1]
    go_wp2
    go_ret
    exact ⟨ret_int HZ.out.2.symm, e1⟩
  cases hY : inB y (-3000) 3000
  · have HZ := Lib.hid (And.intro hR (And.intro hY (codeP_range hR rfl hY)))
    clear hR hY
    go_enter Tryz.func38, Tryz.ntmps38
    go_wp2_with fail
    refine (implIsRegister_any _ _ _ _ _ hr hcap hmax).mono ?_
    rintro e w1 ⟨rfl, e1⟩
    rw [HZ.out.1]
    go_wp2_with fail
    refine (isYear_any _ _).mono ?_
    rintro e w2 ⟨rfl, rfl⟩
    rw [HZ.out.2.1]
    go_wp2
    go_ret
    exact ⟨ret_int HZ.out.2.2.symm, e1⟩
  · have HZ := Lib.hid (And.intro hR (And.intro hY (codeP_ok hR rfl hY)))
    clear hR hY
    go_enter Tryz.func38, Tryz.ntmps38
    go_wp2_with fail
    refine (implIsRegister_any _ _ _ _ _ hr hcap hmax).mono ?_
    rintro e w1 ⟨rfl, e1⟩
    rw [HZ.out.1]
    go_wp2_with fail
    refine (isYear_any _ _).mono ?_
    rintro e w2 ⟨rfl, rfl⟩
    rw [HZ.out.2.1]
    go_wp2
    go_ret
    exact ⟨ret_int HZ.out.2.2.symm, e1⟩

set_option maxRecDepth 100000 in
set_option maxHeartbeats 400000 in
theorem l11Year_any (a : Option Addr) (n c : Nat) (y : Int) (xs : List PlaceV) (w : World) (hr : RdPlace w a n xs) :
    Calls Tryz.prog 44 #[.slice a n c, .int .i64 y] w fun e w' => e = .returned (.int .i64 (codeP xs true y)) ∧ Ext w w' := by
  cases hR : regB xs
  · have HZ := Lib.hid (And.intro hR (codeP_bad (b := true) (y := y) (.inl hR)))
    clear hR
    go_enter Tryz.func44, Tryz.ntmps44
    go_wp2_with fail
    refine (specIsRegister_any _ _ _ _ _ hr).mono ?_
    rintro e w1 ⟨rfl, e1⟩
    rw [HZ.out.1]
    go_wp2
    go_ret
    exact ⟨ret_int HZ.out.2.symm, e1⟩
  cases hY : inB y (-3000) 3000
  · have HZ := Lib.hid (And.intro hR (And.intro hY (codeP_range hR rfl hY)))
    clear hR hY
    go_enter Tryz.func44, Tryz.ntmps44
    go_wp2_with fail
    refine (specIsRegister_any _ _ _ _ _ hr).mono ?_
    rintro e w1 ⟨rfl, e1⟩
    rw [HZ.out.1]
    go_wp2_with fail
    refine (l02Year_any _ _).mono ?_
    rintro e w2 ⟨rfl, rfl⟩
    rw [HZ.out.2.1]
    go_wp2
    go_ret
    exact ⟨ret_int HZ.out.2.2.symm, e1⟩
  · have HZ := Lib.hid (And.intro hR (And.intro hY (codeP_ok hR rfl hY)))
    clear hR hY
    go_enter Tryz.func44, Tryz.ntmps44
    go_wp2_with fail
    refine (specIsRegister_any _ _ _ _ _ hr).mono ?_
    rintro e w1 ⟨rfl, e1⟩
    rw [HZ.out.1]
    go_wp2_with fail
    refine (l02Year_any _ _).mono ?_
    rintro e w2 ⟨rfl, rfl⟩
    rw [HZ.out.2.1]
    go_wp2
    go_ret
    exact ⟨ret_int HZ.out.2.2.symm, e1⟩

set_option maxRecDepth 100000 in
set_option maxHeartbeats 1000000 in
theorem l11Find_any (a : Option Addr) (n c : Nat) (s : ByteArray) (xs : List PlaceV) (w : World) (hr : RdPlace w a n xs) :
    Calls Tryz.prog 66 #[.slice a n c, .string s] w fun e w' => e = .returned (.int .i64 (fdI xs s)) ∧ Ext w w' := by
  obtain ⟨f, hr⟩ := hr
  have hm := hr.le
  have hln := hr.len
  go_enter Tryz.func66, Tryz.ntmps66
  go_wp2
  go_loopw [5] (fun i wr => ∃ k : Nat, k ≤ n ∧ i = .int .i64 k ∧ (∀ j (hj : j < xs.length), j < k → decide (xs[j].code = s) = false) ∧ Ext w wr) (fun i _ => n - (intOf i).toNat)
  case atStart => exact ⟨0, Nat.zero_le _, rfl, fun j _ h => by omega, Ext.refl _⟩
  case round =>
    obtain ⟨k, hk, rfl, hall, hx⟩ := hrel
    have HA := Lib.hid hall
    clear hall
    by_cases hlt : k < n
    · obtain ⟨b, o, rfl, hbl, hA⟩ := (hr.ext hx).at (by omega)
      obtain ⟨hc0, hc1, hc2, hc3, hc4⟩ := hA k hlt
      clear hA
      have hki : (k : Int) < n := by omega
      have hget : xs[k]'(by omega) = nthPlace xs k := (nthPlace_eq (by omega)).symm
      have HG := Lib.hid hget
      clear hget
      by_cases he : (nthPlace xs k).code = s
      · have hb := beqS_eq he
        have HE := Lib.hid he
        clear he
        go_wp2
        go_ret
        exact ⟨ret_int (idxP_at (by omega) (by rw [HG.out]; simpa using HE.out) HA.out).symm, hx⟩
      · have hb := beqS_ne he
        have HE := Lib.hid he
        clear he
        go_wp2
        go_roundw
        case rel =>
          refine ⟨k + 1, by omega, by go_num, fun j hj hjk => ?_, hx⟩
          by_cases e : j = k
          · subst e; rw [HG.out]; simpa using HE.out
          · exact HA.out j hj (by omega)
        case measure => simp [intOf]; omega
    · obtain rfl : k = n := by omega
      go_wp2
      go_ret
      exact ⟨ret_int (idxP_none (fun j hj => HA.out j hj (by omega))).symm, hx⟩

/-- The code of a register, a code of a place and a year. -/
def codeF (xs : List PlaceV) (s : ByteArray) (y : Int) : Int := if codeP xs (wordB s) y = 0 then (if fpB xs s = true then 0 else 4) else codeP xs (wordB s) y
theorem codeF_bad {xs : List PlaceV} {s : ByteArray} {y : Int} (h : codeP xs (wordB s) y ≠ 0) : codeF xs s y = codeP xs (wordB s) y := if_neg h
theorem codeF_no {xs : List PlaceV} {s : ByteArray} {y : Int} (h : codeP xs (wordB s) y = 0) (h2 : fpB xs s = false) : codeF xs s y = 4 := by rw [codeF, if_pos h, h2]; rfl
theorem codeF_yes {xs : List PlaceV} {s : ByteArray} {y : Int} (h : codeP xs (wordB s) y = 0) (h2 : fpB xs s = true) : codeF xs s y = 0 := by rw [codeF, if_pos h, if_pos h2]

set_option maxRecDepth 100000 in
set_option maxHeartbeats 1000000 in
theorem l11Code_any (a : Option Addr) (n c : Nat) (s : ByteArray) (y : Int) (xs : List PlaceV) (w : World) (hr : RdPlace w a n xs) (hs : s.size ≤ 1073741824) :
    Calls Tryz.prog 65 #[.slice a n c, .string s, .int .i64 y] w fun e w' => e = .returned (.int .i64 (codeF xs s y)) ∧ Ext w w' := by
  cases hR : regB xs
  · have HZ := Lib.hid (And.intro hR (show codeF xs s y = 1 by rw [codeF, codeP_bad (.inl hR)]; rfl))
    clear hR
    go_enter Tryz.func65, Tryz.ntmps65
    go_wp2_with fail
    refine (specIsRegister_any _ _ _ _ _ hr).mono ?_
    rintro e w1 ⟨rfl, e1⟩
    rw [HZ.out.1]
    go_wp2
    go_ret
    exact ⟨ret_int HZ.out.2.symm, e1⟩
  cases hW : wordB s
  · have HZ := Lib.hid (And.intro hR (And.intro hW (show codeF xs s y = 1 by rw [codeF, codeP_bad (.inr hW)]; rfl)))
    clear hR hW
    go_enter Tryz.func65, Tryz.ntmps65
    go_wp2_with fail
    refine (specIsRegister_any _ _ _ _ _ hr).mono ?_
    rintro e w1 ⟨rfl, e1⟩
    rw [HZ.out.1]
    go_wp2_with fail
    refine (specIsWord_any _ _ (by omega)).mono ?_
    rintro e w2 ⟨rfl, rfl⟩
    rw [HZ.out.2.1]
    go_wp2
    go_ret
    exact ⟨ret_int HZ.out.2.2.symm, e1⟩
  cases hY : inB y (-3000) 3000
  · have HZ := Lib.hid (And.intro hR (And.intro hW (And.intro hY (show codeF xs s y = 2 by rw [codeF, codeP_range hR hW hY]; rfl))))
    clear hR hW hY
    go_enter Tryz.func65, Tryz.ntmps65
    go_wp2_with fail
    refine (specIsRegister_any _ _ _ _ _ hr).mono ?_
    rintro e w1 ⟨rfl, e1⟩
    rw [HZ.out.1]
    go_wp2_with fail
    refine (specIsWord_any _ _ (by omega)).mono ?_
    rintro e w2 ⟨rfl, rfl⟩
    rw [HZ.out.2.1]
    go_wp2_with fail
    refine (l02Year_any _ _).mono ?_
    rintro e w2 ⟨rfl, rfl⟩
    rw [HZ.out.2.2.1]
    go_wp2
    go_ret
    exact ⟨ret_int HZ.out.2.2.2.symm, e1⟩
  · have hP := codeP_ok hR hW hY
    cases hF : fpB xs s
    all_goals
      have HZ := Lib.hid (And.intro hR (And.intro hW (And.intro hY (And.intro hP hF))))
      first | (have hI : ¬ fdI xs s < 0 := by rw [fd_hit hR hF]; omega) | (have hI : fdI xs s < 0 := by rw [fd_miss hR hF]; decide)
      clear hR hW hY hP hF
      go_enter Tryz.func65, Tryz.ntmps65
      go_wp2_with fail
      refine (specIsRegister_any _ _ _ _ _ hr).mono ?_
      rintro e w1 ⟨rfl, e1⟩
      rw [HZ.out.1]
      go_wp2_with fail
      refine (specIsWord_any _ _ (by omega)).mono ?_
      rintro e w2 ⟨rfl, rfl⟩
      rw [HZ.out.2.1]
      go_wp2_with fail
      refine (l02Year_any _ _).mono ?_
      rintro e w2 ⟨rfl, rfl⟩
      rw [HZ.out.2.2.1]
      go_wp2_with fail
      refine (l11Find_any _ _ _ _ _ _ (hr.ext e1)).mono ?_
      rintro e w3 ⟨rfl, e3⟩
      go_wp2
      go_ret
    · exact ⟨ret_int (codeF_no HZ.out.2.2.2.1 HZ.out.2.2.2.2).symm, e1.trans e3⟩
    · exact ⟨ret_int (codeF_yes HZ.out.2.2.2.1 HZ.out.2.2.2.2).symm, e1.trans e3⟩

end Go.Proofs.YtjelmidkkpchkaaGreatDoor
