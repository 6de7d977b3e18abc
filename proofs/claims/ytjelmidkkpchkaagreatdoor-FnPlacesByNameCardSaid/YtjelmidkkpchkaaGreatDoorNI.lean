/-
  IsName of the program and of the reference.
-/
import Derived.Test.YtjelmidkkpchkaaGreatDoorSP
import Derived.Test.YtjelmidkkpchkaaGreatDoorNName
import Derived.Test.YtjelmidkkpchkaaGreatDoorY2
namespace Go.Proofs.YtjelmidkkpchkaaGreatDoor
open Go.RowKit

def yearsName (x : NameV) : SpanV := ⟨x.from_, x.to_⟩
/-- A name is as described. -/
def nameB (x : NameV) : Bool := phraseB x.text && (langB x.lang && (inB x.status 0 2 && spanB ⟨x.from_, x.to_⟩))

set_option maxRecDepth 100000 in
set_option maxHeartbeats 1000000 in
theorem specIsName_any (x : NameV) (w : World) (hx : okName x) :
    Calls Tryz.prog 192 #[valName x] w fun e w' => e = .returned (.bool (nameB x)) ∧ Ext w w' := by
  obtain ⟨x0, x1, x2, x3, x4⟩ := x
  obtain ⟨hx0, hx1⟩ := hx
  simp only at hx0 hx1
  cases h0 : phraseB x0
  · have H0 := Lib.hid h0
    have hr : nameB ⟨x0, x1, x2, x3, x4⟩ = false := by simp only [nameB]; rw [h0]; rfl
    have HR := Lib.hid hr
    clear hr h0
    simp only [valName]
    go_enter Tryz.func192, Tryz.ntmps192
    go_wp2_with fail
    refine (specIsPhrase_any _ _ (by omega)).mono ?_
    rintro e w1 ⟨rfl, e1⟩
    rw [H0.out]
    go_wp2
    go_ret
    exact ⟨by rw [HR.out]; rfl, (((Ext.refl _).alloc _).trans e1)⟩
  cases h1 : langB x1
  · have H0 := Lib.hid h0
    have H1 := Lib.hid h1
    have hr : nameB ⟨x0, x1, x2, x3, x4⟩ = false := by simp only [nameB]; rw [h0, h1]; rfl
    have HR := Lib.hid hr
    clear hr h0 h1
    simp only [valName]
    go_enter Tryz.func192, Tryz.ntmps192
    go_wp2_with fail
    refine (specIsPhrase_any _ _ (by omega)).mono ?_
    rintro e w1 ⟨rfl, e1⟩
    rw [H0.out]
    have b1 : _ = some (Value.string x1) := box_keptG e1 1
    go_wp2_with fail
    refine (l09Language_any _ _ (by omega)).mono ?_
    rintro e w2 ⟨rfl, rfl⟩
    rw [H1.out]
    go_wp2
    go_ret
    exact ⟨by rw [HR.out]; rfl, (((Ext.refl _).alloc _).trans e1)⟩
  cases h2 : inB x2 0 2
  · have H0 := Lib.hid h0
    have H1 := Lib.hid h1
    have H2 := Lib.hid h2
    have hr : nameB ⟨x0, x1, x2, x3, x4⟩ = false := by simp only [nameB]; rw [h0, h1, h2]; rfl
    have HR := Lib.hid hr
    clear hr h0 h1 h2
    simp only [valName]
    go_enter Tryz.func192, Tryz.ntmps192
    go_wp2_with fail
    refine (specIsPhrase_any _ _ (by omega)).mono ?_
    rintro e w1 ⟨rfl, e1⟩
    rw [H0.out]
    have b1 : _ = some (Value.string x1) := box_keptG e1 1
    go_wp2_with fail
    refine (l09Language_any _ _ (by omega)).mono ?_
    rintro e w2 ⟨rfl, rfl⟩
    rw [H1.out]
    have b2 : _ = some (Value.int .i64 x2) := box_keptG e1 2
    go_wp2_with fail
    refine (l01In_any _ _ _ _).mono ?_
    rintro e w3 ⟨rfl, rfl⟩
    rw [H2.out]
    go_wp2
    go_ret
    exact ⟨by rw [HR.out]; rfl, (((Ext.refl _).alloc _).trans e1)⟩
  cases h3 : spanB ⟨x3, x4⟩
  · have H0 := Lib.hid h0
    have H1 := Lib.hid h1
    have H2 := Lib.hid h2
    have H3 := Lib.hid h3
    have hr : nameB ⟨x0, x1, x2, x3, x4⟩ = false := by simp only [nameB]; rw [h0, h1, h2, h3]; rfl
    have HR := Lib.hid hr
    clear hr h0 h1 h2 h3
    simp only [valName]
    go_enter Tryz.func192, Tryz.ntmps192
    go_wp2_with fail
    refine (specIsPhrase_any _ _ (by omega)).mono ?_
    rintro e w1 ⟨rfl, e1⟩
    rw [H0.out]
    have b1 : _ = some (Value.string x1) := box_keptG e1 1
    go_wp2_with fail
    refine (l09Language_any _ _ (by omega)).mono ?_
    rintro e w2 ⟨rfl, rfl⟩
    rw [H1.out]
    have b2 : _ = some (Value.int .i64 x2) := box_keptG e1 2
    go_wp2_with fail
    refine (l01In_any _ _ _ _).mono ?_
    rintro e w3 ⟨rfl, rfl⟩
    rw [H2.out]
    have b3 : _ = some (Value.int .i64 x3) := box_keptG e1 3
    have b4 : _ = some (Value.int .i64 x4) := box_keptG e1 4
    go_wp2_with fail
    refine (specIsSpan_any ⟨x3, x4⟩ _).mono ?_
    rintro e w4 ⟨rfl, e4⟩
    rw [H3.out]
    go_wp2
    go_ret
    exact ⟨by rw [HR.out]; rfl, ((((Ext.refl _).alloc _).trans e1).trans e4)⟩
  have H0 := Lib.hid h0
  have H1 := Lib.hid h1
  have H2 := Lib.hid h2
  have H3 := Lib.hid h3
  have hr : nameB ⟨x0, x1, x2, x3, x4⟩ = true := by simp only [nameB]; rw [h0, h1, h2, h3]; rfl
  have HR := Lib.hid hr
  clear hr h0 h1 h2 h3
  simp only [valName]
  go_enter Tryz.func192, Tryz.ntmps192
  go_wp2_with fail
  refine (specIsPhrase_any _ _ (by omega)).mono ?_
  rintro e w1 ⟨rfl, e1⟩
  rw [H0.out]
  have b1 : _ = some (Value.string x1) := box_keptG e1 1
  go_wp2_with fail
  refine (l09Language_any _ _ (by omega)).mono ?_
  rintro e w2 ⟨rfl, rfl⟩
  rw [H1.out]
  have b2 : _ = some (Value.int .i64 x2) := box_keptG e1 2
  go_wp2_with fail
  refine (l01In_any _ _ _ _).mono ?_
  rintro e w3 ⟨rfl, rfl⟩
  rw [H2.out]
  have b3 : _ = some (Value.int .i64 x3) := box_keptG e1 3
  have b4 : _ = some (Value.int .i64 x4) := box_keptG e1 4
  go_wp2_with fail
  refine (specIsSpan_any ⟨x3, x4⟩ _).mono ?_
  rintro e w4 ⟨rfl, e4⟩
  rw [H3.out]
  go_wp2
  go_ret
  exact ⟨by rw [HR.out]; rfl, ((((Ext.refl _).alloc _).trans e1).trans e4)⟩

set_option maxRecDepth 100000 in
set_option maxHeartbeats 1000000 in
theorem implIsName_any (x : NameV) (w : World) (hx : okName x) (hmax : MaxW w) :
    Calls Tryz.prog 194 #[valName x] w fun e w' => e = .returned (.bool (nameB x)) ∧ Ext w w' := by
  obtain ⟨x0, x1, x2, x3, x4⟩ := x
  obtain ⟨hx0, hx1⟩ := hx
  simp only at hx0 hx1
  cases h0 : phraseB x0
  · have H0 := Lib.hid h0
    have hr : nameB ⟨x0, x1, x2, x3, x4⟩ = false := by simp only [nameB]; rw [h0]; rfl
    have HR := Lib.hid hr
    clear hr h0
    simp only [valName]
    go_enter Tryz.func194, Tryz.ntmps194
    go_wp2_with fail
    refine (implIsPhrase_any _ _ (by omega) (hmax.ext ((Ext.refl _).alloc _))).mono ?_
    rintro e w1 ⟨rfl, e1⟩
    rw [H0.out]
    go_wp2
    go_ret
    exact ⟨by rw [HR.out]; rfl, (((Ext.refl _).alloc _).trans e1)⟩
  cases h1 : langB x1
  · have H0 := Lib.hid h0
    have H1 := Lib.hid h1
    have hr : nameB ⟨x0, x1, x2, x3, x4⟩ = false := by simp only [nameB]; rw [h0, h1]; rfl
    have HR := Lib.hid hr
    clear hr h0 h1
    simp only [valName]
    go_enter Tryz.func194, Tryz.ntmps194
    go_wp2_with fail
    refine (implIsPhrase_any _ _ (by omega) (hmax.ext ((Ext.refl _).alloc _))).mono ?_
    rintro e w1 ⟨rfl, e1⟩
    rw [H0.out]
    have b1 : _ = some (Value.string x1) := box_keptG e1 1
    go_wp2_with fail
    refine (isLanguage_any _ _ (by omega)).mono ?_
    rintro e w2 ⟨rfl, e2⟩
    rw [H1.out]
    go_wp2
    go_ret
    exact ⟨by rw [HR.out]; rfl, ((((Ext.refl _).alloc _).trans e1).trans e2)⟩
  cases h2 : inB x2 0 2
  · have H0 := Lib.hid h0
    have H1 := Lib.hid h1
    have H2 := Lib.hid h2
    have hr : nameB ⟨x0, x1, x2, x3, x4⟩ = false := by simp only [nameB]; rw [h0, h1, h2]; rfl
    have HR := Lib.hid hr
    clear hr h0 h1 h2
    simp only [valName]
    go_enter Tryz.func194, Tryz.ntmps194
    go_wp2_with fail
    refine (implIsPhrase_any _ _ (by omega) (hmax.ext ((Ext.refl _).alloc _))).mono ?_
    rintro e w1 ⟨rfl, e1⟩
    rw [H0.out]
    have b1 : _ = some (Value.string x1) := box_keptG e1 1
    go_wp2_with fail
    refine (isLanguage_any _ _ (by omega)).mono ?_
    rintro e w2 ⟨rfl, e2⟩
    rw [H1.out]
    have b2 : _ = some (Value.int .i64 x2) := box_keptG (e1.trans e2) 2
    go_wp2_with fail
    refine (within_any _ _ _ _).mono ?_
    rintro e w3 ⟨rfl, rfl⟩
    rw [H2.out]
    go_wp2
    go_ret
    exact ⟨by rw [HR.out]; rfl, ((((Ext.refl _).alloc _).trans e1).trans e2)⟩
  cases h3 : spanB ⟨x3, x4⟩
  · have H0 := Lib.hid h0
    have H1 := Lib.hid h1
    have H2 := Lib.hid h2
    have H3 := Lib.hid h3
    have hr : nameB ⟨x0, x1, x2, x3, x4⟩ = false := by simp only [nameB]; rw [h0, h1, h2, h3]; rfl
    have HR := Lib.hid hr
    clear hr h0 h1 h2 h3
    simp only [valName]
    go_enter Tryz.func194, Tryz.ntmps194
    go_wp2_with fail
    refine (implIsPhrase_any _ _ (by omega) (hmax.ext ((Ext.refl _).alloc _))).mono ?_
    rintro e w1 ⟨rfl, e1⟩
    rw [H0.out]
    have b1 : _ = some (Value.string x1) := box_keptG e1 1
    go_wp2_with fail
    refine (isLanguage_any _ _ (by omega)).mono ?_
    rintro e w2 ⟨rfl, e2⟩
    rw [H1.out]
    have b2 : _ = some (Value.int .i64 x2) := box_keptG (e1.trans e2) 2
    go_wp2_with fail
    refine (within_any _ _ _ _).mono ?_
    rintro e w3 ⟨rfl, rfl⟩
    rw [H2.out]
    have b3 : _ = some (Value.int .i64 x3) := box_keptG (e1.trans e2) 3
    have b4 : _ = some (Value.int .i64 x4) := box_keptG (e1.trans e2) 4
    go_wp2_with fail
    refine (implIsSpan_any ⟨x3, x4⟩ _).mono ?_
    rintro e w4 ⟨rfl, e4⟩
    rw [H3.out]
    go_wp2
    go_ret
    exact ⟨by rw [HR.out]; rfl, (((((Ext.refl _).alloc _).trans e1).trans e2).trans e4)⟩
  have H0 := Lib.hid h0
  have H1 := Lib.hid h1
  have H2 := Lib.hid h2
  have H3 := Lib.hid h3
  have hr : nameB ⟨x0, x1, x2, x3, x4⟩ = true := by simp only [nameB]; rw [h0, h1, h2, h3]; rfl
  have HR := Lib.hid hr
  clear hr h0 h1 h2 h3
  simp only [valName]
  go_enter Tryz.func194, Tryz.ntmps194
  go_wp2_with fail
  refine (implIsPhrase_any _ _ (by omega) (hmax.ext ((Ext.refl _).alloc _))).mono ?_
  rintro e w1 ⟨rfl, e1⟩
  rw [H0.out]
  have b1 : _ = some (Value.string x1) := box_keptG e1 1
  go_wp2_with fail
  refine (isLanguage_any _ _ (by omega)).mono ?_
  rintro e w2 ⟨rfl, e2⟩
  rw [H1.out]
  have b2 : _ = some (Value.int .i64 x2) := box_keptG (e1.trans e2) 2
  go_wp2_with fail
  refine (within_any _ _ _ _).mono ?_
  rintro e w3 ⟨rfl, rfl⟩
  rw [H2.out]
  have b3 : _ = some (Value.int .i64 x3) := box_keptG (e1.trans e2) 3
  have b4 : _ = some (Value.int .i64 x4) := box_keptG (e1.trans e2) 4
  go_wp2_with fail
  refine (implIsSpan_any ⟨x3, x4⟩ _).mono ?_
  rintro e w4 ⟨rfl, e4⟩
  rw [H3.out]
  go_wp2
  go_ret
  exact ⟨by rw [HR.out]; rfl, (((((Ext.refl _).alloc _).trans e1).trans e2).trans e4)⟩

end Go.Proofs.YtjelmidkkpchkaaGreatDoor
