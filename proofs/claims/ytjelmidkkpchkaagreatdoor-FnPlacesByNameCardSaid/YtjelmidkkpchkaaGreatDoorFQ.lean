/-
  FindPlace on both sides.
-/
import Derived.Test.YtjelmidkkpchkaaGreatDoorCR
namespace Go.Proofs.YtjelmidkkpchkaaGreatDoor
open Go.RowKit
attribute [local go_sem ↓] Go.wp_at_zero Go.wp_at_succ

theorem codeF_fd (xs : List PlaceV) (s : ByteArray) : codeF xs s 0 = fdC xs s := by
  rw [codeF, codeP, fdC]
  cases (regB xs && wordB s) <;> simp [show inB 0 (-3000) 3000 = true from rfl]
theorem fdC_zero {xs : List PlaceV} {s : ByteArray} (h : fdC xs s = 0) : regB xs = true ∧ wordB s = true ∧ fpB xs s = true := by
  rw [fdC] at h
  cases h1 : regB xs
  · rw [h1] at h; cases h
  · cases h2 : wordB s
    · rw [h1, h2] at h; cases h
    · cases h3 : fpB xs s
      · rw [h1, h2, h3] at h; cases h
      · exact ⟨rfl, rfl, rfl⟩
theorem fdV_zero {xs : List PlaceV} {s : ByteArray} (h : fdC xs s = 0) : fdV xs s = fdI xs s := by
  obtain ⟨h1, h2, h3⟩ := fdC_zero h
  rw [fdV, h1, h2, h3, fd_hit h1 h3]; rfl
theorem fdV_bad {xs : List PlaceV} {s : ByteArray} (h : fdC xs s ≠ 0) : fdV xs s = 0 := by
  rw [fdV, if_neg]
  intro h2
  apply h
  rw [fdC, if_pos h2.1, if_pos h2.2]

set_option maxRecDepth 100000 in
set_option maxHeartbeats 1000000 in
theorem specFindPlace_any (a : Option Addr) (n c : Nat) (s : ByteArray) (xs : List PlaceV) (w : World) (hr : RdPlace w a n xs) (hs : s.size ≤ 1073741824) :
    Calls Tryz.prog 17 #[.slice a n c, .string s] w (RetIC w (fdV xs s) (fdC xs s)) := by
  by_cases hc : fdC xs s = 0
  · have HZ := Lib.hid (And.intro hc (fdV_zero hc))
    clear hc
    go_enter Tryz.func17, Tryz.ntmps17
    go_wp2_with fail
    refine (l11Code_any _ _ _ _ _ _ _ hr hs).mono ?_
    rintro e w1 ⟨rfl, e1⟩
    rw [codeF_fd, HZ.out.1]
    go_wp2_with fail
    refine (l11Find_any _ _ _ _ _ _ (hr.ext e1)).mono ?_
    rintro e w2 ⟨rfl, e2⟩
    go_wp2
    go_ret2
    rw [RetIC, HZ.out.1, HZ.out.2]
    exact ⟨rfl, e1.trans e2⟩
  · have hb : (fdC xs s == 0) = false := by simpa using hc
    have HZ := Lib.hid (fdV_bad hc)
    clear hc
    go_enter Tryz.func17, Tryz.ntmps17
    go_wp2_with fail
    refine (l11Code_any _ _ _ _ _ _ _ hr hs).mono ?_
    rintro e w1 ⟨rfl, e1⟩
    rw [codeF_fd]
    go_wp2
    go_ret2
    rw [RetIC, HZ.out]
    exact ⟨rfl, e1⟩

set_option maxRecDepth 100000 in
set_option maxHeartbeats 1000000 in
theorem implFindPlace_any (a : Option Addr) (n c : Nat) (s : ByteArray) (xs : List PlaceV) (w : World) (hr : RdPlace w a n xs) (hcap : n ≤ c) (hs : s.size ≤ 1073741824) (hmax : MaxW w) :
    Calls Tryz.prog 16 #[.slice a n c, .string s] w (RetIC w (fdV xs s) (fdC xs s)) := by
  cases hR : regB xs
  · have hc : fdC xs s = 1 := by rw [fdC, hR]; rfl
    have HZ := Lib.hid (And.intro hR (And.intro hc (fdV_bad (xs := xs) (s := s) (by rw [hc]; decide))))
    clear hR hc
    go_enter Tryz.func16, Tryz.ntmps16
    go_wp2_with fail
    refine (implIsRegister_any _ _ _ _ _ hr hcap hmax).mono ?_
    rintro e w1 ⟨rfl, e1⟩
    rw [HZ.out.1]
    go_wp2
    go_ret2
    rw [RetIC, HZ.out.2.1, HZ.out.2.2]
    exact ⟨rfl, e1⟩
  cases hW : wordB s
  · have hc : fdC xs s = 1 := by rw [fdC, hR, hW]; rfl
    have HZ := Lib.hid (And.intro hR (And.intro hc (fdV_bad (xs := xs) (s := s) (by rw [hc]; decide))))
    have HW := Lib.hid hW
    clear hR hc hW
    go_enter Tryz.func16, Tryz.ntmps16
    go_wp2_with fail
    refine (implIsRegister_any _ _ _ _ _ hr hcap hmax).mono ?_
    rintro e w1 ⟨rfl, e1⟩
    rw [HZ.out.1]
    go_wp2_with fail
    refine (implIsWord_any _ _ (by omega)).mono ?_
    rintro e w2 ⟨rfl, e2⟩
    rw [HW.out]
    go_wp2
    go_ret2
    rw [RetIC, HZ.out.2.1, HZ.out.2.2]
    exact ⟨rfl, e1.trans e2⟩
  have hlen := (regB_at hR).2
  have hln := hr.len
  cases hB : fpB xs s
  · have hc : fdC xs s = 4 := by rw [fdC, hR, hW, hB]; rfl
    have HZ := Lib.hid (And.intro hR (And.intro hc (fdV_bad (xs := xs) (s := s) (by rw [hc]; decide))))
    have HW := Lib.hid (And.intro hW hB)
    clear hR hc hW hB
    go_enter Tryz.func16, Tryz.ntmps16
    go_wp2_with fail
    refine (implIsRegister_any _ _ _ _ _ hr hcap hmax).mono ?_
    rintro e w1 ⟨rfl, e1⟩
    rw [HZ.out.1]
    go_wp2_with fail
    refine (implIsWord_any _ _ (by omega)).mono ?_
    rintro e w2 ⟨rfl, e2⟩
    rw [HW.out.1]
    go_wp2_with fail
    refine (findPlace_any _ _ _ _ _ _ (hr.ext (e1.trans e2)) (fun i j hi hj => reg_mono HZ.out.1 s i j hi (by omega)) (by omega)).mono ?_
    rintro e w3 ⟨rfl, e3⟩
    rw [HW.out.2]
    go_wp2
    go_ret2
    rw [RetIC, HZ.out.2.1, HZ.out.2.2]
    exact ⟨rfl, (e1.trans e2).trans e3⟩
  · have hc : fdC xs s = 0 := by rw [fdC, hR, hW, hB]; rfl
    have hv : fdV xs s = (fpI xs s : Nat) := by rw [fdV, hR, hW, hB]; rfl
    have HZ := Lib.hid (And.intro hR (And.intro hc hv))
    have HW := Lib.hid (And.intro hW hB)
    clear hR hc hW hB hv
    go_enter Tryz.func16, Tryz.ntmps16
    go_wp2_with fail
    refine (implIsRegister_any _ _ _ _ _ hr hcap hmax).mono ?_
    rintro e w1 ⟨rfl, e1⟩
    rw [HZ.out.1]
    go_wp2_with fail
    refine (implIsWord_any _ _ (by omega)).mono ?_
    rintro e w2 ⟨rfl, e2⟩
    rw [HW.out.1]
    go_wp2_with fail
    refine (findPlace_any _ _ _ _ _ _ (hr.ext (e1.trans e2)) (fun i j hi hj => reg_mono HZ.out.1 s i j hi (by omega)) (by omega)).mono ?_
    rintro e w3 ⟨rfl, e3⟩
    rw [HW.out.2]
    go_wp2
    go_ret2
    rw [RetIC, HZ.out.2.1, HZ.out.2.2]
    exact ⟨rfl, (e1.trans e2).trans e3⟩

end Go.Proofs.YtjelmidkkpchkaaGreatDoor
