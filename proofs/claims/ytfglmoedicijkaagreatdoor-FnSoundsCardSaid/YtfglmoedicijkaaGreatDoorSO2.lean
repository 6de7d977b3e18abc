/-
  SoundOf, DoSoundAlike, MatchSounds on both sides.
-/
import Derived.Test.YtfglmoedicijkaaGreatDoorSO
namespace Go.Proofs.YtfglmoedicijkaaGreatDoor
open Go.RowKit

def codeS (t : List Int) (ls : List ByteArray) (s : ByteArray) : Int := if (soundB t && (wordB s && wordsB ls)) = true then (if ls.length ≤ 20 then 0 else 3) else 1
theorem codeS_bad {t : List Int} {ls : List ByteArray} {s : ByteArray} (h : soundB t = false ∨ wordB s = false ∨ wordsB ls = false) : codeS t ls s = 1 := by
  rw [codeS, if_neg]
  rcases h with h | h | h <;> simp [h]
theorem codeS_long {t : List Int} {ls : List ByteArray} {s : ByteArray} (h : soundB t = true) (h1 : wordB s = true) (h2 : wordsB ls = true) (h3 : ¬ ls.length ≤ 20) : codeS t ls s = 3 := by
  rw [codeS, h, h1, h2]; exact (if_pos rfl).trans (if_neg h3)
theorem codeS_ok {t : List Int} {ls : List ByteArray} {s : ByteArray} (h : soundB t = true) (h1 : wordB s = true) (h2 : wordsB ls = true) (h3 : ls.length ≤ 20) : codeS t ls s = 0 := by
  rw [codeS, h, h1, h2]; exact (if_pos rfl).trans (if_pos h3)
theorem codeS_zero {t : List Int} {ls : List ByteArray} {s : ByteArray} (h : codeS t ls s = 0) : soundB t = true ∧ wordB s = true ∧ wordsB ls = true ∧ ls.length ≤ 20 := by
  cases h0 : soundB t
  · rw [codeS_bad (.inl h0)] at h; cases h
  cases h1 : wordB s
  · rw [codeS_bad (.inr (.inl h1))] at h; cases h
  cases h2 : wordsB ls
  · rw [codeS_bad (.inr (.inr h2))] at h; cases h
  by_cases h3 : ls.length ≤ 20
  · exact ⟨rfl, rfl, rfl, h3⟩
  · rw [codeS_long h0 h1 h2 h3] at h; cases h

set_option maxRecDepth 100000 in
set_option maxHeartbeats 1000000 in
theorem l07Code_any (a : Option Addr) (n c : Nat) (a2 : Option Addr) (m c2 : Nat) (s : ByteArray) (t : List Int) (ls : List ByteArray) (w : World) (hr : RdI w a n t) (hr2 : RdS w a2 m ls) (hs : s.size ≤ 9223372036854775807) :
    Calls Tryz.prog 42 #[.slice a n c, .slice a2 m c2, .string s] w fun e w' => e = .returned (.int .i64 (codeS t ls s)) ∧ w = w' := by
  have hm := hr2.le
  have hln := hr2.len
  cases h0 : soundB t
  · have H0 := Lib.hid h0
    clear h0
    go_enter Tryz.func42, Tryz.ntmps42
    go_wp2_with (first | (go_at_call 23; refine (specIsSoundTable_any _ _ _ _ _ hr).mono ?_; rintro e w' ⟨rfl, rfl⟩; rw [H0.out]))
    go_ret
    exact ⟨ret_int (codeS_bad (.inl H0.out)).symm, rfl⟩
  cases h1 : wordB s
  · have H0 := Lib.hid (And.intro h0 h1)
    clear h0 h1
    go_enter Tryz.func42, Tryz.ntmps42
    go_wp2_with (first | (go_at_call 23; refine (specIsSoundTable_any _ _ _ _ _ hr).mono ?_; rintro e w' ⟨rfl, rfl⟩; rw [H0.out.1]) | (go_at_call 65; refine (specIsWord_any _ _ hs).mono ?_; rintro e w' ⟨rfl, rfl⟩; rw [H0.out.2]))
    go_ret
    exact ⟨ret_int (codeS_bad (.inr (.inl H0.out.2))).symm, rfl⟩
  have H0 := Lib.hid (And.intro h0 h1)
  clear h0 h1
  go_enter Tryz.func42, Tryz.ntmps42
  go_wp2_with (first | (go_at_call 23; refine (specIsSoundTable_any _ _ _ _ _ hr).mono ?_; rintro e w' ⟨rfl, rfl⟩; rw [H0.out.1]) | (go_at_call 65; refine (specIsWord_any _ _ hs).mono ?_; rintro e w' ⟨rfl, rfl⟩; rw [H0.out.2]))
  go_loop [7] (fun i => ∃ k : Nat, k ≤ m ∧ i = .int .i64 k ∧ ∀ j, j < k → wordB (nthS ls j) = true) (fun i => m - (intOf i).toNat)
  case atStart => exact ⟨0, Nat.zero_le _, rfl, by simp⟩
  case round =>
    obtain ⟨k, hk, rfl, hall⟩ := hrel
    have HA := Lib.hid hall
    clear hall
    by_cases hlt : k < m
    · obtain ⟨b, o, rfl, hbl, hc⟩ := hr2.at (by omega)
      have hck := hc k hlt
      have hsz := hr2.size hlt
      have hki : (k : Int) < m := by omega
      clear hc
      cases h : wordB (nthS ls k)
      · have HH := Lib.hid h
        clear h
        go_wp2_with (first | (go_at_call 65; refine (specIsWord_any _ _ (by omega)).mono ?_; rintro e w' ⟨rfl, rfl⟩; rw [HH.out]))
        go_ret
        exact ⟨ret_int (codeS_bad (.inr (.inr (wordsB_bad (by omega) HH.out)))).symm, rfl⟩
      · have HH := Lib.hid h
        clear h
        go_wp2_with (first | (go_at_call 65; refine (specIsWord_any _ _ (by omega)).mono ?_; rintro e w' ⟨rfl, rfl⟩; rw [HH.out]))
        go_round
        case rel =>
          refine ⟨k + 1, by omega, by go_num, fun j hj => ?_⟩
          by_cases e : j = k
          · rw [e]; exact HH.out
          · exact HA.out j (by omega)
        case measure => simp [intOf]; omega
    · obtain rfl : k = m := by omega
      have hw : wordsB ls = true := wordsB_good (fun j hj => HA.out j (by omega))
      have HW := Lib.hid hw
      clear hw
      by_cases h20 : k ≤ 20
      · have hi : ¬ (20 : Int) < k := by omega
        go_wp2
        go_ret
        exact ⟨ret_int (codeS_ok H0.out.1 H0.out.2 HW.out (by omega)).symm, rfl⟩
      · have hi : (20 : Int) < k := by omega
        go_wp2
        go_ret
        exact ⟨ret_int (codeS_long H0.out.1 H0.out.2 HW.out (by omega)).symm, rfl⟩

def RetSC (w : World) (s : ByteArray) (code : Int) (e : Ending) (w' : World) : Prop := e = .returned (.tuple #[.string s, .int .i64 code]) ∧ Ext w w'
def sndV (t : List Int) (s : ByteArray) : ByteArray := if codeS t [] s = 0 then soundT t s else ⟨#[]⟩

set_option maxRecDepth 100000 in
set_option maxHeartbeats 400000 in
theorem specSoundOf_any (a : Option Addr) (n c : Nat) (s : ByteArray) (t : List Int) (w : World) (hr : RdI w a n t) (hs : s.size ≤ 9223372036854775807) :
    Calls Tryz.prog 19 #[.slice a n c, .string s] w (RetSC w (sndV t s) (codeS t [] s)) := by
  have hnil : RdS w none 0 [] := ⟨RdG.nil _ _ _, by simp⟩
  by_cases hc : codeS t [] s = 0
  · obtain ⟨h0, h1, _, _⟩ := codeS_zero hc
    have HZ := Lib.hid (And.intro hc (And.intro (show sndV t s = soundT t s by rw [sndV, if_pos hc]) (And.intro h0 h1)))
    clear hc h0 h1
    go_enter Tryz.func19, Tryz.ntmps19
    go_wp2_with fail
    refine (l07Code_any _ _ _ _ _ _ _ _ _ _ hr hnil hs).mono ?_
    rintro e w1 ⟨rfl, rfl⟩
    rw [HZ.out.1]
    go_wp2_with fail
    refine (l07Sound_any _ _ _ _ _ _ hr HZ.out.2.2.1 HZ.out.2.2.2).mono ?_
    rintro e w2 ⟨rfl, e2⟩
    go_wp2
    go_ret2
    exact ⟨by rw [HZ.out.2.1, HZ.out.1]; rfl, e2⟩
  · have hb : (codeS t [] s == 0) = false := by simpa using hc
    have HZ := Lib.hid (show sndV t s = ⟨#[]⟩ by rw [sndV, if_neg hc])
    clear hc
    go_enter Tryz.func19, Tryz.ntmps19
    go_wp2_with fail
    refine (l07Code_any _ _ _ _ _ _ _ _ _ _ hr hnil hs).mono ?_
    rintro e w1 ⟨rfl, rfl⟩
    go_wp2
    go_ret2
    exact ⟨by rw [HZ.out]; rfl, Ext.refl _⟩

set_option maxRecDepth 100000 in
set_option maxHeartbeats 400000 in
theorem implSoundOf_any (a : Option Addr) (n c : Nat) (s : ByteArray) (t : List Int) (w : World) (hr : RdI w a n t) (hs : s.size ≤ 9223372036854775807) :
    Calls Tryz.prog 18 #[.slice a n c, .string s] w (RetSC w (sndV t s) (codeS t [] s)) := by
  cases h0 : soundB t
  · have hc := codeS_bad (ls := []) (s := s) (.inl h0)
    have HZ := Lib.hid (And.intro h0 (And.intro hc (show sndV t s = ⟨#[]⟩ by rw [sndV, hc]; rfl)))
    clear h0 hc
    go_enter Tryz.func18, Tryz.ntmps18
    go_wp2_with (first | (go_at_call 22; refine (implIsSoundTable_any _ _ _ _ _ hr).mono ?_; rintro e w' ⟨rfl, rfl⟩; rw [HZ.out.1]))
    go_ret2
    exact ⟨by rw [HZ.out.2.1, HZ.out.2.2]; rfl, Ext.refl _⟩
  cases h1 : wordB s
  · have hc := codeS_bad (t := t) (ls := []) (s := s) (.inr (.inl h1))
    have HZ := Lib.hid (And.intro h0 (And.intro h1 (And.intro hc (show sndV t s = ⟨#[]⟩ by rw [sndV, hc]; rfl))))
    clear h0 h1 hc
    go_enter Tryz.func18, Tryz.ntmps18
    go_wp2_with (first | (go_at_call 22; refine (implIsSoundTable_any _ _ _ _ _ hr).mono ?_; rintro e w' ⟨rfl, rfl⟩; rw [HZ.out.1]) | fail)
    refine (implIsWord_any _ _ hs).mono ?_
    rintro e w1 ⟨rfl, e1⟩
    rw [HZ.out.2.1]
    go_wp2
    go_ret2
    exact ⟨by rw [HZ.out.2.2.1, HZ.out.2.2.2]; rfl, e1⟩
  · have hc := codeS_ok h0 h1 (ls := []) rfl (by simp)
    have HZ := Lib.hid (And.intro h0 (And.intro h1 (And.intro hc (show sndV t s = soundT t s by rw [sndV, if_pos hc]))))
    clear h0 h1 hc
    go_enter Tryz.func18, Tryz.ntmps18
    go_wp2_with (first | (go_at_call 22; refine (implIsSoundTable_any _ _ _ _ _ hr).mono ?_; rintro e w' ⟨rfl, rfl⟩; rw [HZ.out.1]) | fail)
    refine (implIsWord_any _ _ hs).mono ?_
    rintro e w1 ⟨rfl, e1⟩
    rw [HZ.out.2.1]
    go_wp2_with fail
    refine (soundOf_any _ _ _ _ _ _ (hr.ext e1) HZ.out.1 HZ.out.2.1).mono ?_
    rintro e w2 ⟨rfl, e2⟩
    go_wp2
    go_ret2
    exact ⟨by rw [HZ.out.2.2.1, HZ.out.2.2.2]; rfl, e1.trans e2⟩

end Go.Proofs.YtfglmoedicijkaaGreatDoor
