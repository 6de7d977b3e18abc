/-
  Languages, years and spans: the tests of the program and of the reference.
-/
import Derived.Test.YtjelmidkkpchkaaGreatDoorM0
import Derived.Test.YtjelmidkkpchkaaGreatDoorNSpan
namespace Go.Proofs.YtjelmidkkpchkaaGreatDoor
open Go.RowKit

/-- A span is as described. -/
def spanB (x : SpanV) : Bool := inB x.from_ (-3000) 3000 && (inB x.to_ (-3000) 3000 && decide (x.from_ ≤ x.to_))
def meetB (x y : SpanV) : Bool := decide (x.from_ ≤ y.to_) && decide (y.from_ ≤ x.to_)
def langB (s : ByteArray) : Bool := smallB s 2 3

theorem spanB_iff {x : SpanV} : spanB x = true ↔ (-3000 ≤ x.from_ ∧ x.from_ ≤ 3000) ∧ (-3000 ≤ x.to_ ∧ x.to_ ≤ 3000) ∧ x.from_ ≤ x.to_ := by
  simp [spanB, inB]

theorem isYear_any (x : Int) (w : World) :
    Calls Tryz.prog 92 #[.int .i64 x] w fun e w' => e = .returned (.bool (inB x (-3000) 3000)) ∧ w = w' := by
  go_enter Tryz.func92, Tryz.ntmps92
  go_wp2_with (first | (go_at_call 49; refine (within_any _ _ _ _).mono ?_; rintro e w' ⟨rfl, rfl⟩))
  go_ret
  exact ⟨rfl, rfl⟩

theorem l02Year_any (x : Int) (w : World) :
    Calls Tryz.prog 99 #[.int .i64 x] w fun e w' => e = .returned (.bool (inB x (-3000) 3000)) ∧ w = w' := by
  go_enter Tryz.func99, Tryz.ntmps99
  go_wp2_with (first | (go_at_call 55; refine (l01In_any _ _ _ _).mono ?_; rintro e w' ⟨rfl, rfl⟩))
  go_ret
  exact ⟨rfl, rfl⟩

theorem isLanguage_any (s : ByteArray) (w : World) (hs : s.size ≤ 9223372036854775807) :
    Calls Tryz.prog 107 #[.string s] w fun e w' => e = .returned (.bool (langB s)) ∧ Ext w w' := by
  go_enter Tryz.func107, Tryz.ntmps107
  go_wp2_with fail
  refine (isSmall_any _ _ _ _ hs).mono ?_
  rintro e w1 ⟨rfl, e1⟩
  go_wp2
  go_ret
  exact ⟨rfl, e1⟩

theorem l09Language_any (s : ByteArray) (w : World) (hs : s.size ≤ 9223372036854775807) :
    Calls Tryz.prog 64 #[.string s] w fun e w' => e = .returned (.bool (langB s)) ∧ w = w' := by
  go_enter Tryz.func64, Tryz.ntmps64
  go_wp2_with (first | (go_at_call 112; refine (l03Lower_any _ _ _ _ hs).mono ?_; rintro e w' ⟨rfl, rfl⟩))
  go_ret
  exact ⟨rfl, rfl⟩

set_option maxHeartbeats 400000 in
theorem implIsSpan_any (x : SpanV) (w : World) :
    Calls Tryz.prog 152 #[valSpan x] w fun e w' => e = .returned (.bool (spanB x)) ∧ Ext w w' := by
  obtain ⟨x0, x1⟩ := x
  cases h0 : inB x0 (-3000) 3000
  · have H0 := Lib.hid h0
    have hr : spanB ⟨x0, x1⟩ = false := by rw [spanB, h0]; rfl
    have HR := Lib.hid hr
    clear h0 hr
    simp only [valSpan]
    go_enter Tryz.func152, Tryz.ntmps152
    go_wp2_with (first | (go_at_call 92; refine (isYear_any _ _).mono ?_; rintro e w' ⟨rfl, rfl⟩; rw [H0.out]))
    go_ret
    exact ⟨by rw [HR.out]; rfl, by repeat (first | exact Ext.refl _ | apply Ext.alloc)⟩
  · cases h1 : inB x1 (-3000) 3000
    · have H0 := Lib.hid (And.intro h0 h1)
      have hr : spanB ⟨x0, x1⟩ = false := by rw [spanB, h0, h1]; rfl
      have HR := Lib.hid hr
      clear h0 h1 hr
      simp only [valSpan]
      go_enter Tryz.func152, Tryz.ntmps152
      go_wp2_with (first | (go_at_call 92; refine (isYear_any _ _).mono ?_; rintro e w' ⟨rfl, rfl⟩; first | rw [H0.out.1] | rw [H0.out.2]))
      go_ret
      exact ⟨by rw [HR.out]; rfl, by repeat (first | exact Ext.refl _ | apply Ext.alloc)⟩
    · by_cases h2 : x0 ≤ x1
      all_goals
        have H0 := Lib.hid (And.intro h0 h1)
        have hr : spanB ⟨x0, x1⟩ = decide (x0 ≤ x1) := by rw [spanB, h0, h1]; rfl
        have HR := Lib.hid hr
        clear h0 h1 hr
        simp only [valSpan]
        go_enter Tryz.func152, Tryz.ntmps152
        go_wp2_with (first | (go_at_call 92; refine (isYear_any _ _).mono ?_; rintro e w' ⟨rfl, rfl⟩; first | rw [H0.out.1] | rw [H0.out.2]))
        go_ret
        exact ⟨by rw [HR.out]; simp [h2], by repeat (first | exact Ext.refl _ | apply Ext.alloc)⟩

set_option maxHeartbeats 400000 in
theorem specIsSpan_any (x : SpanV) (w : World) :
    Calls Tryz.prog 182 #[valSpan x] w fun e w' => e = .returned (.bool (spanB x)) ∧ Ext w w' := by
  obtain ⟨x0, x1⟩ := x
  cases h0 : inB x0 (-3000) 3000
  · have H0 := Lib.hid h0
    have hr : spanB ⟨x0, x1⟩ = false := by rw [spanB, h0]; rfl
    have HR := Lib.hid hr
    clear h0 hr
    simp only [valSpan]
    go_enter Tryz.func182, Tryz.ntmps182
    go_wp2_with (first | (go_at_call 99; refine (l02Year_any _ _).mono ?_; rintro e w' ⟨rfl, rfl⟩; rw [H0.out]))
    go_ret
    exact ⟨by rw [HR.out]; rfl, by repeat (first | exact Ext.refl _ | apply Ext.alloc)⟩
  · cases h1 : inB x1 (-3000) 3000
    · have H0 := Lib.hid (And.intro h0 h1)
      have hr : spanB ⟨x0, x1⟩ = false := by rw [spanB, h0, h1]; rfl
      have HR := Lib.hid hr
      clear h0 h1 hr
      simp only [valSpan]
      go_enter Tryz.func182, Tryz.ntmps182
      go_wp2_with (first | (go_at_call 99; refine (l02Year_any _ _).mono ?_; rintro e w' ⟨rfl, rfl⟩; first | rw [H0.out.1] | rw [H0.out.2]))
      go_ret
      exact ⟨by rw [HR.out]; rfl, by repeat (first | exact Ext.refl _ | apply Ext.alloc)⟩
    · by_cases h2 : x0 ≤ x1
      all_goals
        have H0 := Lib.hid (And.intro h0 h1)
        have hr : spanB ⟨x0, x1⟩ = decide (x0 ≤ x1) := by rw [spanB, h0, h1]; rfl
        have HR := Lib.hid hr
        clear h0 h1 hr
        simp only [valSpan]
        go_enter Tryz.func182, Tryz.ntmps182
        go_wp2_with (first | (go_at_call 99; refine (l02Year_any _ _).mono ?_; rintro e w' ⟨rfl, rfl⟩; first | rw [H0.out.1] | rw [H0.out.2]))
        go_ret
        exact ⟨by rw [HR.out]; simp [h2], by repeat (first | exact Ext.refl _ | apply Ext.alloc)⟩

end Go.Proofs.YtjelmidkkpchkaaGreatDoor
