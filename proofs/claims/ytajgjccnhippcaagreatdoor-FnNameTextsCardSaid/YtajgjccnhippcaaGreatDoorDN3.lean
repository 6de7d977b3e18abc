/-
  The reference's draws of FnNameTexts.
-/
import Derived.Test.YtajgjccnhippcaaGreatDoorDN2
import Derived.Test.YtajgjccnhippcaaGreatDoorDW2
import Derived.Test.YtajgjccnhippcaaGreatDoorNI
namespace Go.Proofs.YtajgjccnhippcaaGreatDoor
open Go.RowKit

/-- A draw whose source is new memory leaves all that was. -/
theorem draw_ext {w0 w w' : World} {g : Nat} (x : Ext w0 w) (h : Drew w g w') (hg : w0.heap.size ≤ g) : Ext w0 w' := x.grown h.2 (by rintro k e; cases e; exact hg)

set_option maxRecDepth 100000 in
set_option maxHeartbeats 1000000 in
theorem drawNameText_any (a : Option Addr) (n c : Nat) (bs : List Int) (w : World) (hr : RdBy w a n bs) :
    Calls Tryz.prog 42 #[.slice a n c] w fun e w' => ∃ x : NameV, e = .returned (valName x) ∧ (x.text.size ≤ 217 ∧ x.lang.size ≤ 17) ∧ Ext w w' := by
  have xb := (Ext.refl w).alloc (.cells #[.string ⟨#[]⟩, .string ⟨#[]⟩, .int .i64 0, .int .i64 0, .int .i64 0] 62)
  go_enter Tryz.func42, Tryz.ntmps42
  go_wp2_with fail
  refine (l01From_any _ _ _ _ _ (hr.ext xb)).mono ?_
  rintro e w1 ⟨g, rfl, hg, hs, x1⟩
  have B1 := Lib.hid ((Box.new w #[.string ⟨#[]⟩, .string ⟨#[]⟩, .int .i64 0, .int .i64 0, .int .i64 0] 62).ext x1)
  have hwg : w.heap.size ≠ g := by simp at hg; omega
  go_wp2_with fail
  refine (l09Draw_any _ _ hs).mono ?_
  rintro e w2 ⟨⟨p0, p1, p2, p3, p4⟩, rfl, hx, hd⟩
  have hB := B1.out.drew hd hwg
  rw [valName]
  have b0 : _ = some (Value.string ⟨#[]⟩) := hB.cell 0
  have b1 : _ = some (Value.string ⟨#[]⟩) := hB.cell 1
  have b2 : _ = some (Value.int .i64 0) := hB.cell 2
  have b3 : _ = some (Value.int .i64 0) := hB.cell 3
  have b4 : _ = some (Value.int .i64 0) := hB.cell 4
  have f0 := hB.frozen 0
  have f1 := hB.frozen 1
  have f2 := hB.frozen 2
  have f3 := hB.frozen 3
  have f4 := hB.frozen 4
  have x2 : Ext w w2 := draw_ext (xb.trans x1) hd (by simp at hg; omega)
  have HX := Lib.hid (And.intro hx x2)
  clear hx hd hB x2
  go_wp2
  exact bodyPost_ret (v := .agg #[.string p0, .string p1, .int .i64 p2, .int .i64 p3, .int .i64 p4]) (by simp [results, Tryz.results42, go_sem, b0, b1, b2, b3, b4]) rfl ⟨⟨p0, p1, p2, p3, p4⟩, rfl, HX.out.1, ((((HX.out.2.setCell (p := ⟨w.heap.size, 0, none⟩) (Nat.le_refl _) _).setCell (p := ⟨w.heap.size, 1, none⟩) (Nat.le_refl _) _).setCell (p := ⟨w.heap.size, 2, none⟩) (Nat.le_refl _) _).setCell (p := ⟨w.heap.size, 3, none⟩) (Nat.le_refl _) _).setCell (p := ⟨w.heap.size, 4, none⟩) (Nat.le_refl _) _⟩

theorem nameTB_size {x : NameV} (h : nameB x = true) (hx : x.text.size ≤ 217 ∧ x.lang.size ≤ 17) : (nameTB x).size ≤ 1000 := by
  obtain ⟨s0, s1, h4⟩ := nameB_parts h
  obtain ⟨⟨b0, b1⟩, b2, b3⟩ := spanB_bd h4
  simp only at b0 b1 b2 b3
  have e0 := itoaB_size (n := x.status) (by omega) (by omega)
  have e1 := itoaB_size (n := x.from_) (by omega) (by omega)
  have e2 := itoaB_size (n := x.to_) (by omega) (by omega)
  rw [nameTB_app, spanTB_app]
  simp only [ByteArray.size_append]
  have c1 : (⟨#[47]⟩ : ByteArray).size = 1 := rfl
  have c2 : (⟨#[46, 46]⟩ : ByteArray).size = 2 := rfl
  omega

set_option maxRecDepth 100000 in
set_option maxHeartbeats 1000000 in
theorem drawReadName_any (a : Option Addr) (n c : Nat) (bs : List Int) (w : World) (hr : RdBy w a n bs) :
    Calls Tryz.prog 45 #[.slice a n c] w fun e w' => ∃ s : ByteArray, e = .returned (.string s) ∧ s.size ≤ 2000 ∧ Ext w w' := by
  go_enter Tryz.func45, Tryz.ntmps45
  go_wp2_with fail
  refine (l01From_any _ _ _ _ _ hr).mono ?_
  rintro e w1 ⟨g, rfl, hg, hs, x1⟩
  go_wp2_with fail
  refine (l09Draw_any _ _ hs).mono ?_
  rintro e w2 ⟨⟨p0, p1, p2, p3, p4⟩, rfl, hx, hd⟩
  rw [valName]
  simp only at hx ⊢
  have x2 := draw_ext x1 hd hg
  have xb := (Ext.refl w2).alloc (.cells #[.string p0, .string p1, .int .i64 p2, .int .i64 p3, .int .i64 p4] 62)
  have hs2 := hd.1.ext xb
  have HX := Lib.hid (show okName ⟨p0, p1, p2, p3, p4⟩ from ⟨by simp only; omega, by simp only; omega⟩)
  have HS := Lib.hid hx
  clear hx hd
  go_wp2_with fail
  refine (specIsName_any ⟨p0, p1, p2, p3, p4⟩ _ HX.out).mono ?_
  rintro e w3 ⟨rfl, e3⟩
  cases hp : nameB ⟨p0, p1, p2, p3, p4⟩
  · clear hp
    have hs3 := hs2.ext e3
    go_wp2_with fail
    refine (l01Next_any _ _ _ hs3 (by omega)).mono ?_
    rintro e w4 ⟨y, rfl, hy0, hy1, hd⟩
    have x4 := draw_ext ((x2.trans xb).trans e3) hd.drew hg
    have hs4 := hd.1
    clear hd
    by_cases y0 : y = 0
    · subst y0
      go_wp2_with fail
      refine (l01Damage_any _ _ _ hs4 (by decide)).mono ?_
      rintro e w5 ⟨u, rfl, hu, hd⟩
      have x5 := draw_ext x4 hd hg
      have hu2 : u.size ≤ 2000 := Nat.le_trans hu (by decide)
      clear hd hu
      go_wp2
      go_ret
      exact ⟨_, rfl, hu2, x5⟩
    · go_wp2
      go_ret
      exact ⟨_, rfl, by decide, x4⟩
  · have HP := Lib.hid hp
    have y0 : _ = some (Value.string p0) := box_keptG e3 0
    have y1 : _ = some (Value.string p1) := box_keptG e3 1
    have y2 : _ = some (Value.int .i64 p2) := box_keptG e3 2
    have y3 : _ = some (Value.int .i64 p3) := box_keptG e3 3
    have y4 : _ = some (Value.int .i64 p4) := box_keptG e3 4
    clear hp
    go_wp2_with fail
    refine (l09Text_any ⟨p0, p1, p2, p3, p4⟩ _ HP.out HX.out).mono ?_
    rintro e w4 ⟨rfl, e4⟩
    have hz := nameTB_size HP.out HS.out
    have HZ := Lib.hid hz
    have hs4 := (hs2.ext e3).ext e4
    clear hz y0 y1 y2 y3 y4
    go_wp2_with fail
    refine (l01Next_any _ _ _ hs4 (by omega)).mono ?_
    rintro e w5 ⟨y, rfl, hy0, hy1, hd⟩
    have x5 := draw_ext (((x2.trans xb).trans e3).trans e4) hd.drew hg
    have hs5 := hd.1
    clear hd
    by_cases y0 : y = 0
    · subst y0
      go_wp2_with fail
      refine (l01Damage_any _ _ _ hs5 (Nat.le_trans HZ.out (by decide))).mono ?_
      rintro e w6 ⟨u, rfl, hu, hd⟩
      have x6 := draw_ext x5 hd hg
      have hu2 : u.size ≤ 2000 := Nat.le_trans hu (by have := HZ.out; omega)
      clear hd hu
      go_wp2
      go_ret
      exact ⟨_, rfl, hu2, x6⟩
    · go_wp2
      go_ret
      exact ⟨_, rfl, Nat.le_trans HZ.out (by decide), x5⟩

end Go.Proofs.YtajgjccnhippcaaGreatDoor
