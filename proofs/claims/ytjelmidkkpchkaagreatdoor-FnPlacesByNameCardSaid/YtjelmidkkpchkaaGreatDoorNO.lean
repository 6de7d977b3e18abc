/-
  The best name of a place; NameOf on both sides.
-/
import Derived.Test.YtjelmidkkpchkaaGreatDoorCR
import Derived.Test.YtjelmidkkpchkaaGreatDoorM1
import Derived.Test.YtjelmidkkpchkaaGreatDoorM0
namespace Go.Proofs.YtjelmidkkpchkaaGreatDoor
open Go.RowKit
attribute [local go_sem ↓] Go.wp_at_zero Go.wp_at_succ

theorem bestR_range (xs : List NameV) (ls : List ByteArray) (y : Int) : bestR xs ls y < xs.length := by
  rw [bestR]
  split
  · omega
  · exact (bestN_range xs _ y xs.length).2
/-- The best name of a place, or its code. -/
def noT (x : PlaceV) (ls : List ByteArray) (y : Int) : ByteArray := if bestR x.names ls y < 0 then x.code else (nthName x.names (bestR x.names ls y).toNat).text
def noC (xs : List PlaceV) (s : ByteArray) (ls : List ByteArray) (y : Int) : Int := if codeP xs (wordB s && langsB ls) y = 0 then (if fpB xs s = true then 0 else 4) else codeP xs (wordB s && langsB ls) y
def noV (xs : List PlaceV) (s : ByteArray) (ls : List ByteArray) (y : Int) : ByteArray := if codeP xs (wordB s && langsB ls) y = 0 ∧ fpB xs s = true then noT (nthPlace xs (fpI xs s)) ls y else ⟨#[]⟩
theorem no_word {xs : List PlaceV} {s : ByteArray} {ls : List ByteArray} {y : Int} (h : wordB s = false) : codeP xs false y = 1 ∧ noC xs s ls y = 1 ∧ noV xs s ls y = ⟨#[]⟩ := by
  have h1 : codeP xs false y = 1 := codeP_bad (.inr rfl)
  rw [noC, noV, h, Bool.false_and, h1]
  exact ⟨rfl, rfl, rfl⟩
theorem no_lang {xs : List PlaceV} {s : ByteArray} {ls : List ByteArray} {y : Int} (h : langsB ls = false) : codeP xs false y = 1 ∧ noC xs s ls y = 1 ∧ noV xs s ls y = ⟨#[]⟩ := by
  have h1 : codeP xs false y = 1 := codeP_bad (.inr rfl)
  rw [noC, noV, h, Bool.and_false, h1]
  exact ⟨rfl, rfl, rfl⟩
theorem no_code {xs : List PlaceV} {s : ByteArray} {ls : List ByteArray} {y : Int} (h1 : wordB s = true) (h2 : langsB ls = true) (h : codeP xs true y ≠ 0) : noC xs s ls y = codeP xs true y ∧ noV xs s ls y = ⟨#[]⟩ := by
  rw [noC, noV, h1, h2, Bool.and_true, if_neg h, if_neg (fun h3 => h h3.1)]
  exact ⟨rfl, rfl⟩
theorem no_miss {xs : List PlaceV} {s : ByteArray} {ls : List ByteArray} {y : Int} (h1 : wordB s = true) (h2 : langsB ls = true) (h : codeP xs true y = 0) (h3 : fpB xs s = false) : noC xs s ls y = 4 ∧ noV xs s ls y = ⟨#[]⟩ := by
  rw [noC, noV, h1, h2, Bool.and_true, if_pos h, h3]
  exact ⟨rfl, by simp⟩
theorem no_hit {xs : List PlaceV} {s : ByteArray} {ls : List ByteArray} {y : Int} (h1 : wordB s = true) (h2 : langsB ls = true) (h : codeP xs true y = 0) (h3 : fpB xs s = true) : noC xs s ls y = 0 ∧ noV xs s ls y = noT (nthPlace xs (fpI xs s)) ls y := by
  rw [noC, noV, h1, h2, Bool.and_true, if_pos h, h3]
  exact ⟨rfl, by simp [h]⟩
theorem fpB_at {xs : List PlaceV} {s : ByteArray} (h : fpB xs s = true) : fpI xs s < xs.length ∧ (nthPlace xs (fpI xs s)).code = s := by
  rw [fpB, Bool.and_eq_true, decide_eq_true_eq, decide_eq_true_eq] at h
  exact h
theorem noT_code {x : PlaceV} {ls : List ByteArray} {y : Int} (h : bestR x.names ls y < 0) : noT x ls y = x.code := if_pos h
theorem noT_name {x : PlaceV} {ls : List ByteArray} {y : Int} {p : Nat} (h : bestR x.names ls y = p) : noT x ls y = (nthName x.names p).text := by
  rw [noT, h, if_neg (by omega)]; rfl

set_option maxRecDepth 100000 in
set_option maxHeartbeats 400000 in
theorem nameOf_any (x : PlaceV) (r : Ref) (a2 : Option Addr) (m c2 : Nat) (ls : List ByteArray) (y : Int) (w : World) (hx : NamesAt w r x) (hr2 : RdS w a2 m ls) :
    Calls Tryz.prog 63 #[valPlace x r, .slice a2 m c2, .int .i64 y] w fun e w' => e = .returned (.string (noT x ls y)) ∧ Ext w w' := by
  obtain ⟨v0, v1, v2, v3, v4⟩ := x
  obtain ⟨ra, rn, rc⟩ := r
  obtain ⟨hna, hcp, hsz, hnn⟩ := hx
  simp only [valPlace] at hna hcp hsz hnn ⊢
  have hln : v4.length = rn := hna.len
  have xb := (Ext.refl w).alloc (.cells #[.string v0, .int .i64 v1, .int .i64 v2, .int .i64 v3, .slice ra rn rc] 67)
  have hrg := bestR_range v4 ls y
  by_cases h : bestR v4 ls y < 0
  · have HZ := Lib.hid (noT_code (x := ⟨v0, v1, v2, v3, v4⟩) h)
    go_enter Tryz.func63, Tryz.ntmps63
    go_wp2_with fail
    refine (bestIn_any _ _ _ _ _ _ _ _ _ _ (hna.ext xb) (hr2.ext xb)).mono ?_
    rintro e w1 ⟨rfl, e1⟩
    have b0 : _ = some (Value.string v0) := box_keptG e1 0
    go_wp2
    go_ret
    exact ⟨by rw [HZ.out]; rfl, xb.trans e1⟩
  · obtain ⟨p, hp⟩ := Int.eq_ofNat_of_zero_le (show 0 ≤ bestR v4 ls y by omega)
    have hp' : p < rn := by omega
    have HZ := Lib.hid (noT_name (x := ⟨v0, v1, v2, v3, v4⟩) hp)
    have HP := Lib.hid hp
    clear hp h hrg
    go_enter Tryz.func63, Tryz.ntmps63
    go_wp2_with fail
    refine (bestIn_any _ _ _ _ _ _ _ _ _ _ (hna.ext xb) (hr2.ext xb)).mono ?_
    rintro e w1 ⟨rfl, e1⟩
    rw [HP.out]
    have b4 : _ = some (Value.slice ra rn rc) := box_keptG e1 4
    obtain ⟨b, o, rfl, hbl, hA⟩ := (hna.ext (xb.trans e1)).at (by omega)
    obtain ⟨g0, _⟩ := hA p (by omega)
    have hp0 : (0 : Int) ≤ p := by omega
    have hpi : (p : Int) < rn := by omega
    clear hA
    go_wp2
    go_ret
    exact ⟨by rw [HZ.out]; rfl, xb.trans e1⟩

set_option maxRecDepth 100000 in
set_option maxHeartbeats 1000000 in
theorem implNameOf_any (a a2 : Option Addr) (n c m c2 : Nat) (s : ByteArray) (y : Int) (xs : List PlaceV) (ls : List ByteArray) (w : World) (hr : RdPlace w a n xs) (hcap : n ≤ c) (hs : s.size ≤ 1073741824) (hr2 : RdS w a2 m ls) (hmax : MaxW w) :
    Calls Tryz.prog 13 #[.slice a n c, .string s, .slice a2 m c2, .int .i64 y] w (RetSC w (noV xs s ls y) (noC xs s ls y)) := by
  have hln := hr.len
  cases hW : wordB s
  · have HZ := Lib.hid (And.intro hW (no_word (xs := xs) (ls := ls) (y := y) hW))
    clear hW
    go_enter Tryz.func13, Tryz.ntmps13
    go_wp2_with fail
    refine (implIsWord_any _ _ (by omega)).mono ?_
    rintro e w1 ⟨rfl, e1⟩
    rw [HZ.out.1]
    go_wp2_with fail
    refine (registerCode_any _ _ _ _ _ _ _ (hr.ext e1) hcap (hmax.ext e1)).mono ?_
    rintro e w2 ⟨rfl, e2⟩
    rw [HZ.out.2.1]
    go_wp2
    go_ret2
    rw [RetSC, HZ.out.2.2.1, HZ.out.2.2.2]
    exact ⟨rfl, e1.trans e2⟩
  cases hL : langsB ls
  · have HZ := Lib.hid (And.intro hW (no_lang (xs := xs) (s := s) (y := y) hL))
    have HL := Lib.hid hL
    clear hW hL
    go_enter Tryz.func13, Tryz.ntmps13
    go_wp2_with fail
    refine (implIsWord_any _ _ (by omega)).mono ?_
    rintro e w1 ⟨rfl, e1⟩
    rw [HZ.out.1]
    go_wp2_with fail
    refine (areLanguages_any _ _ _ _ _ (hr2.ext e1)).mono ?_
    rintro e w2 ⟨rfl, e2⟩
    rw [HL.out]
    go_wp2_with fail
    refine (registerCode_any _ _ _ _ _ _ _ (hr.ext (e1.trans e2)) hcap (hmax.ext (e1.trans e2))).mono ?_
    rintro e w3 ⟨rfl, e3⟩
    rw [HZ.out.2.1]
    go_wp2
    go_ret2
    rw [RetSC, HZ.out.2.2.1, HZ.out.2.2.2]
    exact ⟨rfl, (e1.trans e2).trans e3⟩
  by_cases hc : codeP xs true y = 0
  · have hreg := codeP_zero hc
    have hlen := (regB_at hreg.1).2
    cases hB : fpB xs s
    · have HZ := Lib.hid (And.intro hc (no_miss hW hL hc hB))
      have HW := Lib.hid (And.intro hW (And.intro hL (And.intro hB hreg.1)))
      clear hW hL hc hB hreg
      go_enter Tryz.func13, Tryz.ntmps13
      go_wp2_with fail
      refine (implIsWord_any _ _ (by omega)).mono ?_
      rintro e w1 ⟨rfl, e1⟩
      rw [HW.out.1]
      go_wp2_with fail
      refine (areLanguages_any _ _ _ _ _ (hr2.ext e1)).mono ?_
      rintro e w2 ⟨rfl, e2⟩
      rw [HW.out.2.1]
      go_wp2_with fail
      refine (registerCode_any _ _ _ _ _ _ _ (hr.ext (e1.trans e2)) hcap (hmax.ext (e1.trans e2))).mono ?_
      rintro e w3 ⟨rfl, e3⟩
      rw [HZ.out.1]
      go_wp2_with fail
      refine (findPlace_any _ _ _ _ _ _ (hr.ext ((e1.trans e2).trans e3)) (fun i j hi hj => reg_mono HW.out.2.2.2 s i j hi (by omega)) (by omega)).mono ?_
      rintro e w4 ⟨rfl, e4⟩
      rw [HW.out.2.2.1]
      go_wp2
      go_ret2
      rw [RetSC, HZ.out.2.1, HZ.out.2.2]
      exact ⟨rfl, ((e1.trans e2).trans e3).trans e4⟩
    · have hat := fpB_at hB
      have HZ := Lib.hid (And.intro hc (no_hit hW hL hc hB))
      have HW := Lib.hid (And.intro hW (And.intro hL (And.intro hB hreg.1)))
      have hp' : fpI xs s < n := by omega
      have hpi : (fpI xs s : Int) < n := by omega
      clear hW hL hc hB hreg hat
      obtain ⟨f, hr⟩ := hr
      go_enter Tryz.func13, Tryz.ntmps13
      go_wp2_with fail
      refine (implIsWord_any _ _ (by omega)).mono ?_
      rintro e w1 ⟨rfl, e1⟩
      rw [HW.out.1]
      go_wp2_with fail
      refine (areLanguages_any _ _ _ _ _ (hr2.ext e1)).mono ?_
      rintro e w2 ⟨rfl, e2⟩
      rw [HW.out.2.1]
      go_wp2_with fail
      refine (registerCode_any _ _ _ _ _ _ _ ⟨f, hr.ext (e1.trans e2)⟩ hcap (hmax.ext (e1.trans e2))).mono ?_
      rintro e w3 ⟨rfl, e3⟩
      rw [HZ.out.1]
      go_wp2_with fail
      refine (findPlace_any _ _ _ _ _ _ ⟨f, hr.ext ((e1.trans e2).trans e3)⟩ (fun i j hi hj => reg_mono HW.out.2.2.2 s i j hi (by omega)) (by omega)).mono ?_
      rintro e w4 ⟨rfl, e4⟩
      rw [HW.out.2.2.1]
      have e5 := ((e1.trans e2).trans e3).trans e4
      obtain ⟨b, o, rfl, hbl, hA⟩ := (hr.ext e5).at (by omega)
      have hna := (hr.ext e5).2 _ hp'
      obtain ⟨hc0, hc1, hc2, hc3, hc4⟩ := hA _ hp'
      clear hA
      go_wp2_with fail
      refine (nameOf_any (nthPlace xs (fpI xs s)) (f (fpI xs s)) _ _ _ _ _ _ hna (hr2.ext e5)).mono ?_
      rintro e w6 ⟨rfl, e6⟩
      go_wp2
      go_ret2
      rw [RetSC, HZ.out.2.1, HZ.out.2.2]
      exact ⟨rfl, e5.trans e6⟩
  · have hb : (codeP xs true y == 0) = false := by simpa using hc
    have HZ := Lib.hid (no_code hW hL hc)
    have HW := Lib.hid (And.intro hW hL)
    clear hW hL hc
    go_enter Tryz.func13, Tryz.ntmps13
    go_wp2_with fail
    refine (implIsWord_any _ _ (by omega)).mono ?_
    rintro e w1 ⟨rfl, e1⟩
    rw [HW.out.1]
    go_wp2_with fail
    refine (areLanguages_any _ _ _ _ _ (hr2.ext e1)).mono ?_
    rintro e w2 ⟨rfl, e2⟩
    rw [HW.out.2]
    go_wp2_with fail
    refine (registerCode_any _ _ _ _ _ _ _ (hr.ext (e1.trans e2)) hcap (hmax.ext (e1.trans e2))).mono ?_
    rintro e w3 ⟨rfl, e3⟩
    go_wp2
    go_ret2
    rw [RetSC, HZ.out.1, HZ.out.2]
    exact ⟨rfl, (e1.trans e2).trans e3⟩

theorem codeF_no2 {xs : List PlaceV} {s : ByteArray} {ls : List ByteArray} {y : Int} (h : langsB ls = true) (h2 : codeF xs s y ≠ 0) : noC xs s ls y = codeF xs s y ∧ noV xs s ls y = ⟨#[]⟩ := by
  rw [noC, noV, h, Bool.and_true]
  rw [codeF] at h2 ⊢
  refine ⟨rfl, if_neg fun h3 => h2 ?_⟩
  rw [if_pos h3.1, if_pos h3.2]
theorem codeF_zero {xs : List PlaceV} {s : ByteArray} {y : Int} (h : codeF xs s y = 0) : codeP xs true y = 0 ∧ wordB s = true ∧ fpB xs s = true ∧ regB xs = true := by
  rw [codeF] at h
  by_cases h1 : codeP xs (wordB s) y = 0
  · rw [if_pos h1] at h
    obtain ⟨h2, h3, h4⟩ := codeP_zero h1
    rw [h3] at h1
    refine ⟨h1, h3, ?_, h2⟩
    cases hB : fpB xs s
    · rw [hB] at h; cases h
    · rfl
  · rw [if_neg h1] at h
    exact absurd h h1

set_option maxRecDepth 100000 in
set_option maxHeartbeats 4000000 in
theorem specNameOf_any (a a2 : Option Addr) (n c m c2 : Nat) (s : ByteArray) (y : Int) (xs : List PlaceV) (ls : List ByteArray) (w : World) (hr : RdPlace w a n xs) (hs : s.size ≤ 1073741824) (hr2 : RdS w a2 m ls) :
    Calls Tryz.prog 14 #[.slice a n c, .string s, .slice a2 m c2, .int .i64 y] w (RetSC w (noV xs s ls y) (noC xs s ls y)) := by
  have hln := hr.len
  have hm2 := hr2.le
  have hln2 := hr2.len
  go_enter Tryz.func14, Tryz.ntmps14
  go_wp2
  go_loopw [10] (fun i wr => ∃ q : Nat, q ≤ m ∧ i = .int .i64 q ∧ (∀ j, j < q → langB (nthS ls j) = true) ∧ Ext w wr) (fun i _ => m - (intOf i).toNat)
  case atStart => exact ⟨0, Nat.zero_le _, rfl, fun j h => by omega, Ext.refl _⟩
  case round =>
    obtain ⟨q, hq, rfl, hall, hx⟩ := hrel
    have HQ := Lib.hid hall
    clear hall
    by_cases hlq : q < m
    · obtain ⟨b2, o2, rfl, hbl2, hcl⟩ := (hr2.ext hx).at (by omega)
      have hck := hcl q hlq
      clear hcl
      have hqi : (q : Int) < m := by omega
      have hsz := hr2.size hlq
      cases hlb : langB (nthS ls q)
      · have HZ := Lib.hid (And.intro hlb (no_lang (xs := xs) (s := s) (y := y) (langsB_bad (k := q) (by omega) hlb)))
        clear hlb
        go_wp2_with fail
        refine (l09Language_any _ _ (by omega)).mono ?_
        rintro e w2 ⟨rfl, rfl⟩
        rw [HZ.out.1]
        go_wp2
        go_ret2
        rw [RetSC, HZ.out.2.2.1, HZ.out.2.2.2]
        exact ⟨rfl, hx⟩
      · have HZ := Lib.hid hlb
        clear hlb
        go_wp2_with fail
        refine (l09Language_any _ _ (by omega)).mono ?_
        rintro e w2 ⟨rfl, rfl⟩
        rw [HZ.out]
        go_wp2
        go_roundw
        case rel => exact ⟨q + 1, by omega, by go_num, fun j hj => (Nat.lt_succ_iff_lt_or_eq.1 hj).elim (HQ.out j) (fun e => e ▸ HZ.out), hx⟩
        case measure => simp [intOf]; omega
    · obtain rfl : q = m := by omega
      have hlg : langsB ls = true := langsB_good (fun j hj => HQ.out j (by omega))
      by_cases hc : codeF xs s y = 0
      · obtain ⟨h1, h2, h3, h4⟩ := codeF_zero hc
        have hat := fpB_at h3
        have HC := Lib.hid (And.intro hc (And.intro (fd_hit h4 h3) (And.intro (no_hit h2 hlg h1 h3) hat.2)))
        have hp' : fpI xs s < n := by omega
        have hpi : (fpI xs s : Int) < n := by omega
        clear hlg hc h1 h2 h3 h4 hat
        obtain ⟨f, hr⟩ := hr
        go_wp2_with fail
        refine (l11Code_any _ _ _ _ _ _ _ ⟨f, hr.ext hx⟩ (by omega)).mono ?_
        rintro e w2 ⟨rfl, e2⟩
        rw [HC.out.1]
        go_wp2_with fail
        refine (l11Find_any _ _ _ _ _ _ ⟨f, hr.ext (hx.trans e2)⟩).mono ?_
        rintro e w3 ⟨rfl, e3⟩
        rw [HC.out.2.1]
        have e4 := (hx.trans e2).trans e3
        obtain ⟨b, o, rfl, hbl, hA⟩ := (hr.ext e4).at (by omega)
        obtain ⟨hna, _, _, hnn⟩ := (hr.ext e4).2 _ hp'
        obtain ⟨hc0, hc1, hc2, hc3, hc4⟩ := hA _ hp'
        have hnl := hna.len
        clear hA hc0 hc1 hc2 hc3
        go_wp2_with fail
        refine (l09Best_any _ _ _ _ _ _ _ _ _ _ hna (hr2.ext e4)).mono ?_
        rintro e w5 ⟨rfl, e5⟩
        by_cases h2 : bestR (nthPlace xs (fpI xs s)).names ls y < 0
        · have HB := Lib.hid (noT_code h2)
          go_wp2
          go_ret2
          rw [RetSC, HC.out.2.2.1.1, HC.out.2.2.1.2, HB.out, HC.out.2.2.2]
          exact ⟨rfl, e4.trans e5⟩
        · have hrg := bestR_range (nthPlace xs (fpI xs s)).names ls y
          obtain ⟨p, hp⟩ := Int.eq_ofNat_of_zero_le (show 0 ≤ bestR (nthPlace xs (fpI xs s)).names ls y by omega)
          have hp' : p < (f (fpI xs s)).n := by omega
          have HB := Lib.hid (noT_name hp)
          rw [hp]
          clear hp h2 hrg
          obtain ⟨b3, o3, hb3, hbl3, hA3⟩ := (hna.ext e5).at (by omega)
          obtain ⟨g0, _⟩ := hA3 p (by omega)
          have hp0 : (0 : Int) ≤ p := by omega
          have hpi : (p : Int) < (f (fpI xs s)).n := by omega
          clear hA3
          rw [hb3]
          go_wp2
          go_ret2
          rw [RetSC, HC.out.2.2.1.1, HC.out.2.2.1.2, HB.out]
          exact ⟨rfl, e4.trans e5⟩
      · have hb : (codeF xs s y == 0) = false := by simpa using hc
        have HC := Lib.hid (codeF_no2 hlg hc)
        clear hlg hc
        go_wp2_with fail
        refine (l11Code_any _ _ _ _ _ _ _ (hr.ext hx) (by omega)).mono ?_
        rintro e w2 ⟨rfl, e2⟩
        go_wp2
        go_ret2
        rw [RetSC, HC.out.1, HC.out.2]
        exact ⟨rfl, hx.trans e2⟩

end Go.Proofs.YtjelmidkkpchkaaGreatDoor
