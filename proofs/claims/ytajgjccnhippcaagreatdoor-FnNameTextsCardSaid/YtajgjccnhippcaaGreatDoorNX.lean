/-
  NameText on both sides.
-/
import Derived.Test.YtajgjccnhippcaaGreatDoorDW2
namespace Go.Proofs.YtajgjccnhippcaaGreatDoor
open Go.RowKit

def ntS (x : NameV) : ByteArray := if nameB x = true then nameTB x else ⟨#[]⟩
def ntC (x : NameV) : Int := if nameB x = true then 0 else 1
theorem nt_no {x : NameV} (h : nameB x = false) : ntS x = ⟨#[]⟩ ∧ ntC x = 1 := by rw [ntS, ntC, h]; exact ⟨rfl, rfl⟩
theorem nt_yes {x : NameV} (h : nameB x = true) : ntS x = nameTB x ∧ ntC x = 0 := by rw [ntS, ntC, h]; exact ⟨rfl, rfl⟩

set_option maxRecDepth 100000 in
set_option maxHeartbeats 400000 in
theorem implNameText_any (x : NameV) (w : World) (hx : okName x) (hmax : MaxW w) (ht : TabW w) :
    Calls Tryz.prog 43 #[valName x] w (RetSC w (ntS x) (ntC x)) := by
  cases hB : nameB x
  all_goals
    have HX := Lib.hid hx
    have hz := nt_no (x := x)
    have hy := nt_yes (x := x)
    rw [hB] at hz hy
    have HZ := Lib.hid (And.intro hB (And.intro hz hy))
    clear hB hz hy hx
    obtain ⟨x0, x1, x2, x3, x4⟩ := x
    have xb := (Ext.refl w).alloc (.cells #[.string x0, .string x1, .int .i64 x2, .int .i64 x3, .int .i64 x4] 62)
    simp only [valName]
    go_enter Tryz.func43, Tryz.ntmps43
    go_wp2_with fail
    refine (implIsName_any ⟨x0, x1, x2, x3, x4⟩ _ HX.out (hmax.ext xb)).mono ?_
    rintro e w1 ⟨rfl, e1⟩
    rw [HZ.out.1]
  · go_wp2
    go_ret2
    rw [RetSC, (HZ.out.2.1 (by trivial)).1, (HZ.out.2.1 (by trivial)).2]
    exact ⟨rfl, xb.trans e1⟩
  · have c0 : _ = some (Value.string x0) := box_keptG e1 0
    have c1 : _ = some (Value.string x1) := box_keptG e1 1
    have c2 : _ = some (Value.int .i64 x2) := box_keptG e1 2
    have c3 : _ = some (Value.int .i64 x3) := box_keptG e1 3
    have c4 : _ = some (Value.int .i64 x4) := box_keptG e1 4
    go_wp2_with fail
    refine (nameText_any ⟨x0, x1, x2, x3, x4⟩ _ HZ.out.1 HX.out (ht.ext (xb.trans e1))).mono ?_
    rintro e w2 ⟨rfl, e2⟩
    go_wp2
    go_ret2
    rw [RetSC, (HZ.out.2.2 (by trivial)).1, (HZ.out.2.2 (by trivial)).2]
    exact ⟨rfl, (xb.trans e1).trans e2⟩

set_option maxRecDepth 100000 in
set_option maxHeartbeats 400000 in
theorem specNameText_any (x : NameV) (w : World) (hx : okName x) :
    Calls Tryz.prog 44 #[valName x] w (RetSC w (ntS x) (ntC x)) := by
  cases hB : nameB x
  all_goals
    have HX := Lib.hid hx
    have hz := nt_no (x := x)
    have hy := nt_yes (x := x)
    rw [hB] at hz hy
    have HZ := Lib.hid (And.intro hB (And.intro hz hy))
    clear hB hz hy hx
    obtain ⟨x0, x1, x2, x3, x4⟩ := x
    have xb := (Ext.refl w).alloc (.cells #[.string x0, .string x1, .int .i64 x2, .int .i64 x3, .int .i64 x4] 62)
    simp only [valName]
    go_enter Tryz.func44, Tryz.ntmps44
    go_wp2_with fail
    refine (specIsName_any ⟨x0, x1, x2, x3, x4⟩ _ HX.out).mono ?_
    rintro e w1 ⟨rfl, e1⟩
    rw [HZ.out.1]
  · go_wp2
    go_ret2
    rw [RetSC, (HZ.out.2.1 (by trivial)).1, (HZ.out.2.1 (by trivial)).2]
    exact ⟨rfl, xb.trans e1⟩
  · have c0 : _ = some (Value.string x0) := box_keptG e1 0
    have c1 : _ = some (Value.string x1) := box_keptG e1 1
    have c2 : _ = some (Value.int .i64 x2) := box_keptG e1 2
    have c3 : _ = some (Value.int .i64 x3) := box_keptG e1 3
    have c4 : _ = some (Value.int .i64 x4) := box_keptG e1 4
    go_wp2_with fail
    refine (l09Text_any ⟨x0, x1, x2, x3, x4⟩ _ HZ.out.1 HX.out).mono ?_
    rintro e w2 ⟨rfl, e2⟩
    go_wp2
    go_ret2
    rw [RetSC, (HZ.out.2.2 (by trivial)).1, (HZ.out.2.2 (by trivial)).2]
    exact ⟨rfl, (xb.trans e1).trans e2⟩

end Go.Proofs.YtajgjccnhippcaaGreatDoor
