/-
  WayUp and MeetingIn on both sides.
-/
import Derived.Test.YtgbfihjimbpgnaaDoorLN
namespace Go.Proofs.YtgbfihjimbpgnaaDoor
open Go.RowKit

/-- A list of texts and a code. -/
def RetTC (w : World) (ss : List ByteArray) (code : Int) (e : Ending) (w' : World) : Prop := ∃ v, e = .returned (.tuple #[v, .int .i64 code]) ∧ ∃ a n c, v = .slice a n c ∧ n ≤ 1048576 ∧ OwnS w' w.heap.size a n c ss ∧ Ext w w'
theorem RetTC.nil {w : World} {code : Int} {w' : World} (h : Ext w w') : RetTC w [] code (.returned (.tuple #[.slice none 0 0, .int .i64 code])) w' := ⟨_, rfl, none, 0, 0, rfl, by decide, ⟨OwnG.isNil _ _ _ _, by simp⟩, h⟩
def wayV (xs : List LinkV) (s : ByteArray) (y : Int) : List ByteArray := if codeK xs (wordB s) y = 0 then wayU xs s y else []
theorem way_len {xs : List LinkV} (h : linksB xs = true) (hok : ∀ x ∈ xs, okLink x) {s : ByteArray} (hs : s.size ≤ 1073741824) (y : Int) : (wayU xs s y).length ≤ 21 := by
  obtain ⟨l, hl, hp, _⟩ := wayU_spec (y := y) hok hs
  have := hp.len
  have := (linksB_at h).2.1
  rw [hl]; omega
theorem wayW_eq {xs : List LinkV} (h : linksB xs = true) (hok : ∀ x ∈ xs, okLink x) {s : ByteArray} (hs : s.size ≤ 1073741824) (y : Int) : wayW xs s y = wayU xs s y := by
  rw [wayW, no_circ h hok hs]; rfl

set_option maxRecDepth 100000 in
set_option maxHeartbeats 400000 in
theorem specWayUp_any (a : Option Addr) (n c : Nat) (s : ByteArray) (y : Int) (xs : List LinkV) (w : World) (hr : RdLink w a n xs) (hs : s.size ≤ 1073741824) (hn : n ≤ 1048577) :
    Calls Tryd.prog 25 #[.slice a n c, .string s, .int .i64 y] w (RetTC w (wayV xs s y) (codeK xs (wordB s) y)) := by
  by_cases hc : codeK xs (wordB s) y = 0
  · obtain ⟨hL, hW, _⟩ := codeK_zero hc
    have hwl := way_len hL hr.2 hs y
    have HZ := Lib.hid (And.intro hc (And.intro (show wayV xs s y = wayU xs s y by rw [wayV, if_pos hc]) (And.intro (wayW_eq hL hr.2 hs y) (And.intro (word_ne hW) (links_par hL)))))
    clear hc hL hW
    go_enter Tryd.func25, Tryd.ntmps25
    go_wp2_with fail
    refine (l12Code_any _ _ _ _ _ _ _ hr hs hn).mono ?_
    rintro e w1 ⟨rfl, e1⟩
    rw [HZ.out.1]
    go_wp2_with fail
    refine (l12Way_any _ _ _ _ _ _ _ (hr.ext e1) hs HZ.out.2.2.2.1 HZ.out.2.2.2.2 hn).mono ?_
    rintro e w2 ⟨v, rfl, a2, n2, c2, rfl, o2, e2⟩
    rw [HZ.out.2.2.1] at o2
    have hl2 := o2.rd.len
    go_wp2
    go_ret2
    rw [HZ.out.2.1, HZ.out.1]
    exact ⟨_, rfl, _, _, _, rfl, by omega, o2.mono e1.size, e1.trans e2⟩
  · have hb : (codeK xs (wordB s) y == 0) = false := by simpa using hc
    have HZ := Lib.hid (show wayV xs s y = [] by rw [wayV, if_neg hc])
    clear hc
    go_enter Tryd.func25, Tryd.ntmps25
    go_wp2_with fail
    refine (l12Code_any _ _ _ _ _ _ _ hr hs hn).mono ?_
    rintro e w1 ⟨rfl, e1⟩
    go_wp2
    go_ret2
    rw [HZ.out]
    exact RetTC.nil e1

set_option maxRecDepth 100000 in
set_option maxHeartbeats 400000 in
theorem implWayUp_any (a : Option Addr) (n c : Nat) (s : ByteArray) (y : Int) (xs : List LinkV) (w : World) (hr : RdLink w a n xs) (hcap : n ≤ c) (hs : s.size ≤ 1073741824) (hn : n ≤ 1048577) :
    Calls Tryd.prog 26 #[.slice a n c, .string s, .int .i64 y] w (RetTC w (wayV xs s y) (codeK xs (wordB s) y)) := by
  have xb := (Ext.refl w).alloc (.cells #[.string s] 9)
  have hr2 := RdS.one w s hs 9
  by_cases hc : codeK xs (wordB s) y = 0
  · obtain ⟨hL, hW, _⟩ := codeK_zero hc
    have hwl := way_len hL hr.2 hs y
    have HZ := Lib.hid (And.intro hc (show wayV xs s y = wayU xs s y by rw [wayV, if_pos hc]))
    clear hc hL hW
    go_enter Tryd.func26, Tryd.ntmps26
    go_wp2_with fail
    refine (linkCode_any _ _ _ _ _ _ _ [s] _ _ (hr.ext xb) hcap hr2 hn).mono ?_
    rintro e w1 ⟨rfl, e1⟩
    rw [wordsB_one, HZ.out.1]
    go_wp2_with fail
    refine (wayUp_any _ _ _ _ _ _ _ (hr.ext (xb.trans e1)) hs hn).mono ?_
    rintro e w2 ⟨v, rfl, ⟨a2, n2, c2, rfl, o2, e2⟩, _, _⟩
    have hl2 := o2.rd.len
    go_wp2
    go_ret2
    rw [HZ.out.2, HZ.out.1]
    exact ⟨_, rfl, _, _, _, rfl, by omega, o2.mono (xb.trans e1).size, (xb.trans e1).trans e2⟩
  · have hb : (codeK xs (wordB s) y == 0) = false := by simpa using hc
    have HZ := Lib.hid (show wayV xs s y = [] by rw [wayV, if_neg hc])
    clear hc
    go_enter Tryd.func26, Tryd.ntmps26
    go_wp2_with fail
    refine (linkCode_any _ _ _ _ _ _ _ [s] _ _ (hr.ext xb) hcap hr2 hn).mono ?_
    rintro e w1 ⟨rfl, e1⟩
    rw [wordsB_one]
    go_wp2
    go_ret2
    rw [HZ.out]
    exact RetTC.nil (xb.trans e1)

/-! Where two ways meet. -/
def mtI (xs : List LinkV) (s t : ByteArray) (y : Int) : Int := idxP (fun c => hasS (wayU xs t y) c) (wayU xs s y)
def mtK (xs : List LinkV) (s t : ByteArray) (y : Int) : Int := codeK xs (wordB s && wordB t) y
def mtV (xs : List LinkV) (s t : ByteArray) (y : Int) : ByteArray := if mtK xs s t y = 0 ∧ 0 ≤ mtI xs s t y then nthS (wayU xs s y) (mtI xs s t y).toNat else ⟨#[]⟩
def mtC (xs : List LinkV) (s t : ByteArray) (y : Int) : Int := if mtK xs s t y = 0 then (if 0 ≤ mtI xs s t y then 0 else 4) else mtK xs s t y
theorem mt_code {xs : List LinkV} {s t : ByteArray} {y : Int} (h : mtK xs s t y ≠ 0) : mtV xs s t y = ⟨#[]⟩ ∧ mtC xs s t y = mtK xs s t y := ⟨if_neg fun h2 => h h2.1, if_neg h⟩
theorem mt_none {xs : List LinkV} {s t : ByteArray} {y : Int} (h : mtK xs s t y = 0) (h2 : mtI xs s t y = -1) : mtV xs s t y = ⟨#[]⟩ ∧ mtC xs s t y = 4 := ⟨if_neg fun h3 => by omega, by rw [mtC, if_pos h, if_neg (by omega)]⟩
theorem mt_some {xs : List LinkV} {s t : ByteArray} {y : Int} {k : Nat} (h : mtK xs s t y = 0) (h2 : mtI xs s t y = (k : Nat)) : mtV xs s t y = nthS (wayU xs s y) k ∧ mtC xs s t y = 0 := ⟨by rw [mtV, if_pos ⟨h, by omega⟩, h2]; rfl, by rw [mtC, if_pos h, if_pos (by omega)]⟩
theorem wordsB_two (s t : ByteArray) : wordsB [s, t] = (wordB s && wordB t) := by simp [wordsB]

set_option maxRecDepth 100000 in
set_option maxHeartbeats 1000000 in
theorem implMeetingIn_any (a : Option Addr) (n c : Nat) (s t : ByteArray) (y : Int) (xs : List LinkV) (w : World) (hr : RdLink w a n xs) (hcap : n ≤ c) (hs : s.size ≤ 1073741824) (hs2 : t.size ≤ 1073741824) (hn : n ≤ 1048577) :
    Calls Tryd.prog 18 #[.slice a n c, .string s, .string t, .int .i64 y] w (RetSC w (mtV xs s t y) (mtC xs s t y)) := by
  have xb := (Ext.refl w).alloc (.cells #[.string s, .string t] 9)
  have hr2 := RdS.two w s t hs hs2 9
  by_cases hc : mtK xs s t y = 0
  · have HZ := Lib.hid hc
    clear hc
    go_enter Tryd.func18, Tryd.ntmps18
    go_wp2_with fail
    refine (linkCode_any _ _ _ _ _ _ _ [s, t] _ _ (hr.ext xb) hcap hr2 hn).mono ?_
    rintro e w1 ⟨rfl, e1⟩
    rw [wordsB_two, show codeK xs (wordB s && wordB t) y = 0 from HZ.out]
    go_wp2_with fail
    refine (wayUp_any _ _ _ _ _ _ _ (hr.ext (xb.trans e1)) hs2 hn).mono ?_
    rintro e w2 ⟨v, rfl, ⟨a2, n2, c2, rfl, o2, e2⟩, _, _⟩
    go_wp2_with fail
    refine (wayUp_any _ _ _ _ _ _ _ (hr.ext ((xb.trans e1).trans e2)) hs hn).mono ?_
    rintro e w3 ⟨v, rfl, ⟨a3, n3, c3, rfl, o3, e3⟩, _, _⟩
    have hl3 := o3.rd.len
    have hle3 := o3.rd.le
    go_wp2
    go_loopw [32] (fun i wr => ∃ k : Nat, k ≤ n3 ∧ i = .int .i64 k ∧ (∀ j (hj : j < (wayU xs s y).length), j < k → hasS (wayU xs t y) (wayU xs s y)[j] = false) ∧ w3 = wr) (fun i _ => n3 - (intOf i).toNat)
    case atStart => exact ⟨0, Nat.zero_le _, rfl, fun j _ h => by omega, rfl⟩
    case round =>
      obtain ⟨k, hk, rfl, hall, rfl⟩ := hrel
      have HA := Lib.hid hall
      clear hall
      by_cases hlt : k < n3
      · obtain ⟨b, o, rfl, hbl, hcc⟩ := o3.rd.at (by omega)
        have hck := hcc k hlt
        clear hcc
        have hki : (k : Int) < n3 := by omega
        have hget : (wayU xs s y)[k]'(by omega) = nthS (wayU xs s y) k := (nthS_eq (by omega)).symm
        have HG := Lib.hid hget
        clear hget
        go_wp2_with fail
        refine (slContains_string_any _ _ _ _ _ _ (o2.rd.ext e3)).mono ?_
        rintro e w4 ⟨rfl, rfl⟩
        cases hh : hasS (wayU xs t y) (nthS (wayU xs s y) k)
        · have HH := Lib.hid hh
          clear hh
          go_wp2
          go_roundw
          case rel =>
            refine ⟨k + 1, by omega, by go_num, fun j hj hjk => ?_, trivial⟩
            by_cases e : j = k
            · subst e; rw [HG.out]; exact HH.out
            · exact HA.out j hj (by omega)
          case measure => simp [intOf]; omega
        · have HH := Lib.hid hh
          clear hh
          go_wp2
          go_ret2
          have hi : mtI xs s t y = (k : Nat) := idxP_at (by omega) (by rw [HG.out]; exact HH.out) HA.out
          rw [(mt_some HZ.out hi).1, (mt_some HZ.out hi).2]
          exact ⟨rfl, ((xb.trans e1).trans e2).trans e3⟩
      · obtain rfl : k = n3 := by omega
        have hi : mtI xs s t y = -1 := idxP_none fun j hj => HA.out j hj (by omega)
        have HI := Lib.hid (mt_none HZ.out hi)
        clear hi
        go_wp2
        go_ret2
        rw [HI.out.1, HI.out.2]
        exact ⟨rfl, ((xb.trans e1).trans e2).trans e3⟩
  · have hb : (codeK xs (wordB s && wordB t) y == 0) = false := by simpa [mtK] using hc
    have HZ := Lib.hid (mt_code hc)
    clear hc
    go_enter Tryd.func18, Tryd.ntmps18
    go_wp2_with fail
    refine (linkCode_any _ _ _ _ _ _ _ [s, t] _ _ (hr.ext xb) hcap hr2 hn).mono ?_
    rintro e w1 ⟨rfl, e1⟩
    rw [wordsB_two]
    go_wp2
    go_ret2
    exact ⟨by rw [HZ.out.1, HZ.out.2, mtK]; rfl, xb.trans e1⟩

set_option maxRecDepth 100000 in
set_option maxHeartbeats 1000000 in
theorem specMeetingIn_any (a : Option Addr) (n c : Nat) (s t : ByteArray) (y : Int) (xs : List LinkV) (w : World) (hr : RdLink w a n xs) (hs : s.size ≤ 1073741824) (hs2 : t.size ≤ 1073741824) (hn : n ≤ 1048577) :
    Calls Tryd.prog 17 #[.slice a n c, .string s, .string t, .int .i64 y] w (RetSC w (mtV xs s t y) (mtC xs s t y)) := by
  cases hw : wordB t
  · have hk : mtK xs s t y = 1 := by rw [mtK, hw, Bool.and_false]; exact codeK_bad (.inr rfl)
    have HZ := Lib.hid (And.intro hw (And.intro hk (mt_code (by rw [hk]; decide))))
    clear hk hw
    go_enter Tryd.func17, Tryd.ntmps17
    go_wp2_with fail
    refine (l12Code_any _ _ _ _ _ _ _ hr hs hn).mono ?_
    rintro e w1 ⟨rfl, e1⟩
    go_wp2_with (first | (go_at_call 48; refine (specIsWord_any _ _ (by omega)).mono ?_; rintro e w' ⟨rfl, rfl⟩; rw [HZ.out.1]))
    go_ret2
    exact ⟨by rw [HZ.out.2.2.1, HZ.out.2.2.2, HZ.out.2.1]; rfl, e1⟩
  by_cases hc : codeK xs (wordB s) y = 0
  · obtain ⟨hL, hW, _⟩ := codeK_zero hc
    have hkk : mtK xs s t y = 0 := by rw [mtK, hw, Bool.and_true, hc]
    have HZ := Lib.hid (And.intro hc (And.intro hw (And.intro (wayW_eq hL hr.2 hs y) (And.intro (wayW_eq hL hr.2 hs2 y) (And.intro (word_ne hW) (And.intro (word_ne hw) (links_par hL)))))))
    have HK := Lib.hid hkk
    clear hc hL hW hw hkk
    go_enter Tryd.func17, Tryd.ntmps17
    go_wp2_with fail
    refine (l12Code_any _ _ _ _ _ _ _ hr hs hn).mono ?_
    rintro e w1 ⟨rfl, e1⟩
    rw [HZ.out.1]
    go_wp2_with (first | (go_at_call 48; refine (specIsWord_any _ _ (by omega)).mono ?_; rintro e w' ⟨rfl, rfl⟩; rw [HZ.out.2.1]) | fail)
    refine (l12Way_any _ _ _ _ _ _ _ (hr.ext e1) hs HZ.out.2.2.2.2.1 HZ.out.2.2.2.2.2.2 hn).mono ?_
    rintro e w3 ⟨v, rfl, a3, n3, c3, rfl, o3, e3⟩
    rw [HZ.out.2.2.1] at o3
    go_wp2_with fail
    refine (l12Way_any _ _ _ _ _ _ _ (hr.ext (e1.trans e3)) hs2 HZ.out.2.2.2.2.2.1 HZ.out.2.2.2.2.2.2 hn).mono ?_
    rintro e w2 ⟨v, rfl, a2, n2, c2, rfl, o2, e2⟩
    rw [HZ.out.2.2.2.1] at o2
    have hl3 := o3.rd.len
    have hle3 := o3.rd.le
    have hr3 := o3.rd.ext e2
    go_wp2
    go_loopw [15] (fun i wr => ∃ k : Nat, k ≤ n3 ∧ i = .int .i64 k ∧ (∀ j (hj : j < (wayU xs s y).length), j < k → hasS (wayU xs t y) (wayU xs s y)[j] = false) ∧ w2 = wr) (fun i _ => n3 - (intOf i).toNat)
    case atStart => exact ⟨0, Nat.zero_le _, rfl, fun j _ h => by omega, rfl⟩
    case round =>
      obtain ⟨k, hk, rfl, hall, rfl⟩ := hrel
      have HA := Lib.hid hall
      clear hall
      by_cases hlt : k < n3
      · obtain ⟨b, o, rfl, hbl, hcc⟩ := hr3.at (by omega)
        have hck := hcc k hlt
        clear hcc
        have hki : (k : Int) < n3 := by omega
        have hget : (wayU xs s y)[k]'(by omega) = nthS (wayU xs s y) k := (nthS_eq (by omega)).symm
        have HG := Lib.hid hget
        clear hget
        cases hh : hasS (wayU xs t y) (nthS (wayU xs s y) k)
        · have hi : decide (0 ≤ idxS (wayU xs t y) (nthS (wayU xs s y) k)) = false := hh
          have HH := Lib.hid hh
          clear hh
          go_wp2_with (first | (go_at_call 49; refine (l03Find_any _ _ _ _ _ _ o2.rd).mono ?_; rintro e w4 ⟨rfl, rfl⟩))
          go_roundw
          case rel =>
            refine ⟨k + 1, by omega, by go_num, fun j hj hjk => ?_, trivial⟩
            by_cases e : j = k
            · subst e; rw [HG.out]; exact HH.out
            · exact HA.out j hj (by omega)
          case measure => simp [intOf]; omega
        · have hi : decide (0 ≤ idxS (wayU xs t y) (nthS (wayU xs s y) k)) = true := hh
          have HH := Lib.hid hh
          clear hh
          go_wp2_with (first | (go_at_call 49; refine (l03Find_any _ _ _ _ _ _ o2.rd).mono ?_; rintro e w4 ⟨rfl, rfl⟩))
          go_ret2
          have hi : mtI xs s t y = (k : Nat) := idxP_at (by omega) (by rw [HG.out]; exact HH.out) HA.out
          rw [(mt_some HK.out hi).1, (mt_some HK.out hi).2]
          exact ⟨rfl, (e1.trans e3).trans e2⟩
      · obtain rfl : k = n3 := by omega
        have hi : mtI xs s t y = -1 := idxP_none fun j hj => HA.out j hj (by omega)
        have HI := Lib.hid (mt_none HK.out hi)
        clear hi
        go_wp2
        go_ret2
        rw [HI.out.1, HI.out.2]
        exact ⟨rfl, (e1.trans e3).trans e2⟩
  · have hb : (codeK xs (wordB s) y == 0) = false := by simpa using hc
    have hkk : mtK xs s t y = codeK xs (wordB s) y := by rw [mtK, hw, Bool.and_true]
    have hz := mt_code (xs := xs) (s := s) (t := t) (y := y) (by rw [hkk]; exact hc)
    rw [hkk] at hz
    have HZ := Lib.hid (And.intro hw hz)
    clear hc hw hz hkk
    go_enter Tryd.func17, Tryd.ntmps17
    go_wp2_with fail
    refine (l12Code_any _ _ _ _ _ _ _ hr hs hn).mono ?_
    rintro e w1 ⟨rfl, e1⟩
    go_wp2_with (first | (go_at_call 48; refine (specIsWord_any _ _ (by omega)).mono ?_; rintro e w' ⟨rfl, rfl⟩; rw [HZ.out.1]))
    go_ret2
    exact ⟨by rw [HZ.out.2.1, HZ.out.2.2]; rfl, e1⟩

end Go.Proofs.YtgbfihjimbpgnaaDoor
