/-
  The walks of KindsOf and IsKindOf, the program's and the reference's.
-/
import Derived.Test.YtjkffefenffffaaD2
namespace Go.Proofs.Ytjkffefenffffaa
open Go.RowKit

/-- Where the code is not 0 the two functions answer 0 and the code. -/
theorem code_cases (zs l : List Int) : codeL zs l = 0 ∨ codeL zs l ≠ 0 := by omega

/-- What KindsOf answers. -/
def kindsR (zs : List Int) (x : Int) : List Int := if codeL zs [x] = 0 then kinds zs x else []
/-- A list and a code. -/
def RetLC (w : World) (zs : List Int) (code : Int) (e : Ending) (w' : World) : Prop := ∃ v, e = .returned (.tuple #[v, .int .i64 code]) ∧ NewI w w' zs v

theorem NewI.nil (w w' : World) (h : Ext w w') : NewI w w' [] (.slice none 0 0) := ⟨none, 0, 0, rfl, ⟨OwnI.isNil _ _, by decide⟩, h⟩
theorem NewI.pre {w0 w w' : World} {zs : List Int} {v : Value} (h0 : Ext w0 w) (h : NewI w w' zs v) : NewI w0 w' zs v := by
  obtain ⟨a, n, c, rfl, ho, hx⟩ := h
  exact ⟨a, n, c, rfl, ho.mono h0.size, h0.trans hx⟩

set_option maxHeartbeats 400000 in
theorem specKindsOf_any (a : Option Addr) (n c : Nat) (x : Int) (zs : List Int) (w : World) (hr : RdI w a n zs) :
    Calls Try.prog 21 #[.slice a n c, .int .i64 x] w (RetLC w (kindsR zs x) (codeL zs [x])) := by
  have hs := codeL_same zs x
  cases hc : codeL zs [x] == 0
  · have hc' : (codeL zs [x, x] != 0) = true := by rw [hs, bne, hc]; rfl
    have hz : kindsR zs x = [] := by rw [kindsR, if_neg (by simpa using hc)]
    have HZ := Lib.hid (And.intro hs hz)
    clear hs hz hc
    go_enter Try.func21, Try.ntmps21
    go_wp2_with (first | (go_at_call 52; refine (l10Code_any _ _ _ _ _ _ _ hr).mono ?_; rintro e w' ⟨rfl, rfl⟩))
    go_ret2
    rw [RetLC, HZ.out.2, ← HZ.out.1]
    exact ⟨_, rfl, NewI.nil _ _ (Ext.refl _)⟩
  · have h0 : codeL zs [x] = 0 := by simpa using hc
    have hc' : (codeL zs [x, x] != 0) = false := by rw [hs, h0]; rfl
    have hz : kindsR zs x = kinds zs x := by rw [kindsR, if_pos h0]
    have ht := codeL_tree h0
    obtain ⟨hx0, hx1⟩ := codeL_in h0 x (by simp)
    obtain ⟨k, rfl⟩ := Int.eq_ofNat_of_zero_le hx0
    have hk : k < n := by have := hr.len; omega
    have HZ := Lib.hid (And.intro h0 hz)
    clear hs hz hc h0 hx0 hx1
    go_enter Try.func21, Try.ntmps21
    go_wp2_with (first | (go_at_call 52; refine (l10Code_any _ _ _ _ _ _ _ hr).mono ?_; rintro e w' ⟨rfl, rfl⟩) | (go_at_call 53; refine (l10Kinds_any _ _ _ _ _ _ hr ht hk).mono ?_; rintro e w1 ⟨v, rfl, a1, n1, c1, rfl, ho, hb⟩))
    go_ret2
    rw [RetLC, HZ.out.2, HZ.out.1]
    exact ⟨_, rfl, _, _, _, rfl, ho, hb⟩

set_option maxHeartbeats 400000 in
theorem implKindsOf_any (a : Option Addr) (n c : Nat) (x : Int) (zs : List Int) (w : World) (hr : RdI w a n zs) :
    Calls Try.prog 22 #[.slice a n c, .int .i64 x] w (RetLC w (kindsR zs x) (codeL zs [x])) := by
  cases hc : codeL zs [x] == 0
  · have hc' : (codeL zs [x] != 0) = true := by rw [bne, hc]; rfl
    have hz : kindsR zs x = [] := by rw [kindsR, if_neg (by simpa using hc)]
    have HZ := Lib.hid hz
    clear hz hc
    go_enter Try.func22, Try.ntmps22
    go_wp2_with (first | (go_at_call 54; refine (classCode_any _ _ _ _ _ _ _ [x] _ (hr.ext ((Ext.refl _).alloc _)) (RdI.new1 _ _ _)).mono ?_; rintro e w' ⟨rfl, rfl⟩))
    go_ret2
    rw [RetLC, HZ.out]
    exact ⟨_, rfl, NewI.nil _ _ ((Ext.refl _).alloc _)⟩
  · have h0 : codeL zs [x] = 0 := by simpa using hc
    have hc' : (codeL zs [x] != 0) = false := by rw [h0]; rfl
    have hz : kindsR zs x = kinds zs x := by rw [kindsR, if_pos h0]
    have ht := codeL_tree h0
    obtain ⟨hx0, hx1⟩ := codeL_in h0 x (by simp)
    obtain ⟨k, rfl⟩ := Int.eq_ofNat_of_zero_le hx0
    have hk : k < n := by have := hr.len; omega
    have HZ := Lib.hid (And.intro h0 hz)
    clear hz hc h0 hx0 hx1
    go_enter Try.func22, Try.ntmps22
    go_wp2_with (first | (go_at_call 54; refine (classCode_any _ _ _ _ _ _ _ [(k : Int)] _ (hr.ext ((Ext.refl _).alloc _)) (RdI.new1 _ _ _)).mono ?_; rintro e w' ⟨rfl, rfl⟩) | (go_at_call 55; refine (kindsOf_any _ _ _ _ _ _ (hr.ext ((Ext.refl _).alloc _)) ht hk).mono ?_; rintro e w1 ⟨v, rfl, hnew⟩; obtain ⟨a1, n1, c1, rfl, ho, hb⟩ := NewI.pre ((Ext.refl w).alloc _) hnew; clear hnew))
    go_ret2
    rw [RetLC, HZ.out.2, HZ.out.1]
    exact ⟨_, rfl, _, _, _, rfl, ho, hb⟩

/-- A bool and a code, new blocks at most. -/
def RetBC (w : World) (b : Bool) (code : Int) (e : Ending) (w' : World) : Prop := e = .returned (.tuple #[.bool b, .int .i64 code]) ∧ Ext w w'
def RetIC (w : World) (z : Int) (code : Int) (e : Ending) (w' : World) : Prop := e = .returned (.tuple #[.int .i64 z, .int .i64 code]) ∧ Ext w w'

theorem codeL_two {zs : List Int} {x y : Int} (h : codeL zs [x, y] = 0) : Tree zs ∧ (0 ≤ x ∧ x < zs.length) ∧ (0 ≤ y ∧ y < zs.length) :=
  ⟨codeL_tree h, codeL_in h x (by simp), codeL_in h y (by simp)⟩

theorem RdI.new2 (w : World) (x y : Int) (e : TypeId) : RdI (w.alloc (.cells #[.int .i64 x, .int .i64 y] e)) (some ⟨w.heap.size, 0, none⟩) 2 [x, y] :=
  ⟨rfl, by decide, .inr ⟨_, _, rfl, by simp, fun j u hu => by
    match j with
    | 0 => simp at hu; subst hu; simp [World.cell?_alloc_at]
    | 1 => simp at hu; subst hu; simp [World.cell?_alloc_at]
    | j + 2 => simp at hu⟩⟩

set_option maxHeartbeats 400000 in
theorem isKindOf_any (a : Option Addr) (n c : Nat) (k : Nat) (y : Int) (zs : List Int) (w : World) (hr : RdI w a n zs) (ht : Tree zs) (hk : k < n) :
    Calls Try.prog 59 #[.slice a n c, .int .i64 k, .int .i64 y] w fun e w' => e = .returned (.bool (hasI (kinds zs k) y)) ∧ Ext w w' := by
  go_enter Try.func59, Try.ntmps59
  go_wp2_with (first | (go_at_call 55; refine (kindsOf_any _ _ _ _ _ _ hr ht hk).mono ?_; rintro e w1 ⟨v, rfl, a1, n1, c1, rfl, ho, hb⟩) | (go_at_call 60; refine (slContains_int64_any _ _ _ _ _ _ ho.rd).mono ?_; rintro e w' ⟨rfl, rfl⟩))
  go_ret
  exact ⟨rfl, hb⟩

set_option maxHeartbeats 400000 in
theorem specIsKindOf_any (a : Option Addr) (n c : Nat) (x y : Int) (zs : List Int) (w : World) (hr : RdI w a n zs) :
    Calls Try.prog 27 #[.slice a n c, .int .i64 x, .int .i64 y] w (RetBC w (isKindR zs x y) (codeL zs [x, y])) := by
  cases hc : codeL zs [x, y] == 0
  · have hc' : (codeL zs [x, y] != 0) = true := by rw [bne, hc]; rfl
    have hz : isKindR zs x y = false := by rw [isKindR, if_neg (by simpa using hc)]
    have HZ := Lib.hid hz
    clear hz hc
    go_enter Try.func27, Try.ntmps27
    go_wp2_with (first | (go_at_call 52; refine (l10Code_any _ _ _ _ _ _ _ hr).mono ?_; rintro e w' ⟨rfl, rfl⟩))
    go_ret2
    rw [RetBC, HZ.out]
    exact ⟨rfl, Ext.refl _⟩
  · have h0 : codeL zs [x, y] = 0 := by simpa using hc
    have hc' : (codeL zs [x, y] != 0) = false := by rw [h0]; rfl
    have hz : isKindR zs x y = hasI (kinds zs x) y := by rw [isKindR, if_pos h0]
    obtain ⟨ht, ⟨hx0, hx1⟩, _⟩ := codeL_two h0
    obtain ⟨k, rfl⟩ := Int.eq_ofNat_of_zero_le hx0
    have hk : k < n := by have := hr.len; omega
    have HZ := Lib.hid (And.intro h0 hz)
    clear hz hc h0 hx0 hx1
    go_enter Try.func27, Try.ntmps27
    go_wp2_with (first | (go_at_call 52; refine (l10Code_any _ _ _ _ _ _ _ hr).mono ?_; rintro e w' ⟨rfl, rfl⟩) | (go_at_call 53; refine (l10Kinds_any _ _ _ _ _ _ hr ht hk).mono ?_; rintro e w1 ⟨v, rfl, a1, n1, c1, rfl, ho, hb⟩) | (go_at_call 58; refine (l01Has_any _ _ _ _ _ _ ho.rd).mono ?_; rintro e w' ⟨rfl, rfl⟩))
    go_ret2
    rw [RetBC, HZ.out.2, HZ.out.1]
    exact ⟨rfl, hb⟩

set_option maxHeartbeats 400000 in
theorem implIsKindOf_any (a : Option Addr) (n c : Nat) (x y : Int) (zs : List Int) (w : World) (hr : RdI w a n zs) :
    Calls Try.prog 28 #[.slice a n c, .int .i64 x, .int .i64 y] w (RetBC w (isKindR zs x y) (codeL zs [x, y])) := by
  have hal : ∀ o, Ext w (w.alloc o) := fun o => (Ext.refl _).alloc o
  have HAL := Lib.hid hal
  clear hal
  cases hc : codeL zs [x, y] == 0
  · have hc' : (codeL zs [x, y] != 0) = true := by rw [bne, hc]; rfl
    have hz : isKindR zs x y = false := by rw [isKindR, if_neg (by simpa using hc)]
    have HZ := Lib.hid hz
    clear hz hc
    go_enter Try.func28, Try.ntmps28
    go_wp2_with (first | (go_at_call 54; refine (classCode_any _ _ _ _ _ _ _ [x, y] _ (hr.ext (HAL.out _)) (RdI.new2 _ _ _ _)).mono ?_; rintro e w' ⟨rfl, rfl⟩))
    go_ret2
    rw [RetBC, HZ.out]
    exact ⟨rfl, HAL.out _⟩
  · have h0 : codeL zs [x, y] = 0 := by simpa using hc
    have hc' : (codeL zs [x, y] != 0) = false := by rw [h0]; rfl
    have hz : isKindR zs x y = hasI (kinds zs x) y := by rw [isKindR, if_pos h0]
    obtain ⟨ht, ⟨hx0, hx1⟩, _⟩ := codeL_two h0
    obtain ⟨k, rfl⟩ := Int.eq_ofNat_of_zero_le hx0
    have hk : k < n := by have := hr.len; omega
    have HZ := Lib.hid (And.intro h0 hz)
    clear hz hc h0 hx0 hx1
    go_enter Try.func28, Try.ntmps28
    go_wp2_with (first | (go_at_call 54; refine (classCode_any _ _ _ _ _ _ _ [(k : Int), y] _ (hr.ext (HAL.out _)) (RdI.new2 _ _ _ _)).mono ?_; rintro e w' ⟨rfl, rfl⟩) | (go_at_call 59; refine (isKindOf_any _ _ _ _ _ _ _ (hr.ext (HAL.out _)) ht hk).mono ?_; rintro e w1 ⟨rfl, hb⟩))
    go_ret2
    rw [RetBC, HZ.out.2, HZ.out.1]
    exact ⟨rfl, (HAL.out _).trans hb⟩

end Go.Proofs.Ytjkffefenffffaa
