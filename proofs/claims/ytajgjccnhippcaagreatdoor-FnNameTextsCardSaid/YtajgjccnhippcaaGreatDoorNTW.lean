/-
  FnNameTexts returns true for every code.
-/
import Derived.Test.YtajgjccnhippcaaGreatDoorRD5
import Derived.Test.YtajgjccnhippcaaGreatDoorNX
import Derived.Test.YtajgjccnhippcaaGreatDoorDN3
import Derived.Test.YtajgjccnhippcaaGreatDoorEQN
import Derived.Test.YtajgjccnhippcaaGreatDoorTB
import Derived.Test.YtajgjccnhippcaaGreatDoorEV
import Derived.Test.YtajgjccnhippcaaGreatDoorW2
namespace Go.Proofs.YtajgjccnhippcaaGreatDoor.fnNameTexts
open Go.ChangeShapes Go.WideShapes Go.ChangeAt Go.RowKit

theorem isText_small {s : ByteArray} {x : NameV} (h : isText s x) : x.text.size ≤ s.size ∧ x.lang.size ≤ s.size := by
  have := congrArg List.length h.2
  rw [nameT] at this
  simp only [List.length_append, List.length_cons] at this
  have e1 : x.text.data.toList.length = x.text.size := rfl
  have e2 : x.lang.data.toList.length = x.lang.size := rfl
  have e3 : s.data.toList.length = s.size := rfl
  omega
theorem isText_nt {s : ByteArray} {x : NameV} (h : isText s x) : ntS x = s ∧ ntC x = 0 := by
  rw [(nt_yes h.1).1, (nt_yes h.1).2]
  exact ⟨eqS.1 h.2, rfl⟩
theorem nt_eq (x : NameV) : ((ntC x == 0) = nameB x) := by
  cases h : nameB x
  · rw [(nt_no h).2]; rfl
  · rw [(nt_yes h).2]; rfl

set_option maxRecDepth 100000 in
set_option maxHeartbeats 4000000 in
theorem walk (a_code : Option Addr) (n_code c_code : Nat) (z_code : List Int) (w : World) (hi_code : InBy w a_code n_code z_code) (hmax : MaxW w) (htab : TabW w) (herr : ErrW w) :
    Calls Tryz.prog 6 #[.slice a_code n_code c_code] w fun e w' => e = .returned (.bool true) ∧ Ext w w' := by
  by_cases hbig : (4096 : Int) < n_code
  · go_enter Tryz.func6, Tryz.ntmps6
    go_wp2_with (go_at_call 16; refine (big_any _ _ _ _).mono ?_; rintro e w' ⟨rfl, rfl⟩)
    go_ret
    exact ⟨rfl, Ext.refl _⟩
  have hr := hi_code.rdBy (by omega)
  clear hi_code
  go_enter Tryz.func6, Tryz.ntmps6
  go_wp2_with (go_at_call 16; refine (big_any _ _ _ _).mono ?_; rintro e w' ⟨rfl, rfl⟩)
  clear hbig
  refine (drawNameText_any _ _ _ _ _ hr).mono ?_
  rintro e w1 ⟨⟨p0, p1, p2, p3, p4⟩, rfl, hx, x1⟩
  rw [valName]
  simp only at hx ⊢
  have HS := Lib.hid hx
  have HO := Lib.hid (show okName ⟨p0, p1, p2, p3, p4⟩ from ⟨by simp only; omega, by simp only; omega⟩)
  clear hx
  have xp := (Ext.refl w1).alloc (.cells #[.string p0, .string p1, .int .i64 p2, .int .i64 p3, .int .i64 p4] 62)
  have X1 := x1.trans xp
  go_wp2_with fail
  refine (implNameText_any ⟨p0, p1, p2, p3, p4⟩ _ HO.out (hmax.ext X1) (htab.ext X1)).mono ?_
  rintro e w2 ⟨rfl, x2⟩
  have b0 : _ = some (Value.string p0) := box_keptG (x2) 0
  have b1 : _ = some (Value.string p1) := box_keptG (x2) 1
  have b2 : _ = some (Value.int .i64 p2) := box_keptG (x2) 2
  have b3 : _ = some (Value.int .i64 p3) := box_keptG (x2) 3
  have b4 : _ = some (Value.int .i64 p4) := box_keptG (x2) 4
  go_wp2_with fail
  refine (specNameText_any ⟨p0, p1, p2, p3, p4⟩ _ HO.out).mono ?_
  rintro e w3 ⟨rfl, x3⟩
  clear b0 b1 b2 b3 b4
  have X3 := (X1.trans x2).trans x3
  go_wp2_with fail
  refine (drawReadName_any _ _ _ _ _ (hr.ext X3)).mono ?_
  rintro e w4 ⟨s, rfl, hsz, x4⟩
  have X4 := X3.trans x4
  have HX := Lib.hid (nt_eq ⟨p0, p1, p2, p3, p4⟩)
  have HY := Lib.hid (rd_cases s)
  have h1 := implReadName_any s
  have h2 := specReadName_any s
  generalize rdV s = Y at h1 h2 HY
  generalize rdC s = cd at h1 h2 HY
  obtain ⟨q0, q1, q2, q3, q4⟩ := Y
  have H1 := Lib.hid h1
  have H2 := Lib.hid h2
  clear h1 h2
  have hs30 : s.size ≤ 1073741824 := by omega
  go_wp2_with fail
  refine (H1.out _ hs30 (htab.ext X4) (herr.ext X4) (hmax.ext X4)).mono ?_
  rintro e w5 ⟨rfl, x5⟩
  rw [valName]
  have xq := (Ext.refl w5).alloc (.cells #[.string q0, .string q1, .int .i64 q2, .int .i64 q3, .int .i64 q4] 62)
  have X5 := (X4.trans x5).trans xq
  go_wp2_with fail
  refine (H2.out _ hs30).mono ?_
  rintro e w6 ⟨rfl, x6⟩
  rw [valName]
  have x7 := x6.alloc (.cells #[.string q0, .string q1, .int .i64 q2, .int .i64 q3, .int .i64 q4] 62)
  have c0 : _ = some (Value.string q0) := box_keptG (x7) 0
  have c1 : _ = some (Value.string q1) := box_keptG (x7) 1
  have c2 : _ = some (Value.int .i64 q2) := box_keptG (x7) 2
  have c3 : _ = some (Value.int .i64 q3) := box_keptG (x7) 3
  have c4 : _ = some (Value.int .i64 q4) := box_keptG (x7) 4
  have xpp := (((x2.trans x3).trans x4).trans x5).trans (xq.trans x7)
  have b0 : _ = some (Value.string p0) := box_keptG (xpp) 0
  have b1 : _ = some (Value.string p1) := box_keptG (xpp) 1
  have b2 : _ = some (Value.int .i64 p2) := box_keptG (xpp) 2
  have b3 : _ = some (Value.int .i64 p3) := box_keptG (xpp) 3
  have b4 : _ = some (Value.int .i64 p4) := box_keptG (xpp) 4
  have eg := Tryz.eqGuardName
  have X7 := X5.trans x7
  go_wp2_with fail
  refine (implIsName_any ⟨p0, p1, p2, p3, p4⟩ _ HO.out (hmax.ext X7)).mono ?_
  rintro e w8 ⟨rfl, x8⟩
  have X8 := X7.trans x8
  have xpp8 := xpp.trans x8
  have xq8 := x7.trans x8
  clear b0 b1 b2 b3 b4 c0 c1 c2 c3 c4
  have c0 : _ = some (Value.string q0) := box_keptG (xq8) 0
  have c1 : _ = some (Value.string q1) := box_keptG (xq8) 1
  have c2 : _ = some (Value.int .i64 q2) := box_keptG (xq8) 2
  have c3 : _ = some (Value.int .i64 q3) := box_keptG (xq8) 3
  have c4 : _ = some (Value.int .i64 q4) := box_keptG (xq8) 4
  cases hn : nameB ⟨p0, p1, p2, p3, p4⟩
  · rw [(nt_no hn).1, (nt_no hn).2]
    clear hn HX
    rcases HY.out with ⟨x, hx, rfl, rfl⟩ | ⟨_, _, rfl⟩
    · skip
      have HQ := Lib.hid (isText_small hx)
      have HT := Lib.hid (isText_nt hx)
      clear hx
      go_wp2_with fail
      refine (implNameText_any ⟨q0, q1, q2, q3, q4⟩ _ ⟨Nat.le_trans HQ.out.1 hs30, Nat.le_trans HQ.out.2 hs30⟩ (hmax.ext X8) (htab.ext X8)).mono ?_
      rintro e w10 ⟨rfl, x10⟩
      rw [HT.out.1, HT.out.2]
      go_wp2
      go_ret
      exact ⟨rfl, X8.trans x10⟩
    · go_wp2
      go_ret
      exact ⟨rfl, X8⟩
  · rw [(nt_yes hn).1, (nt_yes hn).2]
    have hz := nameTB_size hn HS.out
    have h3 := implReadName_any (nameTB ⟨p0, p1, p2, p3, p4⟩)
    rw [(rd_yes (s := nameTB ⟨p0, p1, p2, p3, p4⟩) ⟨hn, rfl⟩).1, (rd_yes (s := nameTB ⟨p0, p1, p2, p3, p4⟩) ⟨hn, rfl⟩).2] at h3
    have HN := Lib.hid (And.intro hn (show (nameTB ⟨p0, p1, p2, p3, p4⟩).size ≤ 1073741824 by omega))
    have H3 := Lib.hid h3
    clear hn HX hz h3
    rcases HY.out with ⟨x, hx, rfl, rfl⟩ | ⟨_, _, rfl⟩
    · skip
      have HQ := Lib.hid (isText_small hx)
      have HT := Lib.hid (isText_nt hx)
      clear hx
      go_wp2_with fail
      refine (implNameText_any ⟨q0, q1, q2, q3, q4⟩ _ ⟨Nat.le_trans HQ.out.1 hs30, Nat.le_trans HQ.out.2 hs30⟩ (hmax.ext X8) (htab.ext X8)).mono ?_
      rintro e w10 ⟨rfl, x10⟩
      rw [HT.out.1, HT.out.2]
      have hm9 := hmax.ext (X8.trans x10)
      go_wp2_with fail
      refine (H3.out _ HN.out.2 (htab.ext (X8.trans x10)) (herr.ext (X8.trans x10)) hm9).mono ?_
      rintro e w9 ⟨rfl, x9⟩
      rw [valName]
      have xz := x9.alloc (.cells #[.string p0, .string p1, .int .i64 p2, .int .i64 p3, .int .i64 p4] 62)
      have xp9 := (xpp8.trans x10).trans xz
      clear c0 c1 c2 c3 c4
      have b0 : _ = some (Value.string p0) := box_keptG (xp9) 0
      have b1 : _ = some (Value.string p1) := box_keptG (xp9) 1
      have b2 : _ = some (Value.int .i64 p2) := box_keptG (xp9) 2
      have b3 : _ = some (Value.int .i64 p3) := box_keptG (xp9) 3
      have b4 : _ = some (Value.int .i64 p4) := box_keptG (xp9) 4
      go_wp2
      go_ret
      exact ⟨rfl, (X8.trans x10).trans xz⟩
    · skip
      have hm9 := hmax.ext (X8)
      go_wp2_with fail
      refine (H3.out _ HN.out.2 (htab.ext (X8)) (herr.ext (X8)) hm9).mono ?_
      rintro e w9 ⟨rfl, x9⟩
      rw [valName]
      have xz := x9.alloc (.cells #[.string p0, .string p1, .int .i64 p2, .int .i64 p3, .int .i64 p4] 62)
      have xp9 := (xpp8).trans xz
      clear c0 c1 c2 c3 c4
      have b0 : _ = some (Value.string p0) := box_keptG (xp9) 0
      have b1 : _ = some (Value.string p1) := box_keptG (xp9) 1
      have b2 : _ = some (Value.int .i64 p2) := box_keptG (xp9) 2
      have b3 : _ = some (Value.int .i64 p3) := box_keptG (xp9) 3
      have b4 : _ = some (Value.int .i64 p4) := box_keptG (xp9) 4
      go_wp2
      go_ret
      exact ⟨rfl, (X8).trans xz⟩


end Go.Proofs.YtajgjccnhippcaaGreatDoor.fnNameTexts
